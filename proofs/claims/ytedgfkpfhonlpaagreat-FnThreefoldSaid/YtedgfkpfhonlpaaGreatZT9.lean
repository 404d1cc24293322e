/- Lemmas (9). -/
import Derived.Lib.AppendZeros
import Derived.Test.YtedgfkpfhonlpaaGreatZT4
import Derived.Test.YtedgfkpfhonlpaaGreatZT6
import Derived.Test.YtedgfkpfhonlpaaGreatZT7
import Derived.Test.YtedgfkpfhonlpaaGreatZT8
set_option maxHeartbeats 16000000
set_option maxRecDepth 100000
set_option linter.unusedSimpArgs false
set_option linter.unusedVariables false
namespace Go.Proofs.YtedgfkpfhonlpaaGreat
open Go.RowKit
def PlainC:List D→List D→Prop
 | [],x' => x' = []
 | x :: xs,x' => ∃ y ys,x' = y :: ys∧(isSl x = false→y = x)∧PlainC xs ys
def PlainL:List (List D)→List (List D)→Prop
 | [],x' => x' = []
 | x :: xs,x' => ∃ y ys,x' = y :: ys∧PlainC x y∧PlainL xs ys
theorem tagC_of' {A:Nat→Prop} {w:World}:∀ {x:List D} {cs:List Value} {F:List Nat},ownCs w cs x F→(∀ b ∈ F,A b)→∃ x',TagC x x' F∧PlainC x x'∧rdCs A w cs x'
 | [],cs,F,h,_ => by
  obtain ⟨d,h1,h2⟩:=h
  exact ⟨[],⟨rfl,h2⟩,rfl,by rw [h1];exact rdCs.nil⟩
 | x :: xs,cs,F,h,hA => by
  obtain ⟨v,us,G,H,rfl,rfl,h1,h2⟩:=h.cons_inv
  obtain ⟨ys,h3,h5,h4⟩:=tagC_of' h2 (fun b hb => hA b (List.mem_append_right _ hb))
  cases hx:isSl x with
  | true =>
   exact ⟨.tag G x :: ys,⟨_,_,G,H,rfl,rfl,.inl rfl,h3⟩,⟨_,_,rfl,(fun e => by rw [hx] at e;cases e),h5⟩,rdCs.cons (xO.2 ⟨fun b hb => hA b (List.mem_append_left _ hb),h1⟩) h4⟩
  | false =>
   have hG:=ownV_scal_nil hx h1
   subst hG
   exact ⟨x :: ys,⟨_,_,[],H,rfl,rfl,.inr ⟨hx,rfl,rfl⟩,h3⟩,⟨_,_,rfl,(fun _ => rfl),h5⟩,rdCs.cons (h1.rd.mono (fun b hb _ => by cases hb)) h4⟩
theorem tagL_of' {A:Nat→Prop} {w:World} {k:Nat} (hk:0 < k):∀ {xs:List (List D)} {ds:List Value} {F:List Nat},ownR k w ds xs F→(∀ b ∈ F,A b)→∃ xs',TagL xs xs' F∧PlainL xs xs'∧rdR k A w ds xs'
 | [],ds,F,h,_ => by
  obtain ⟨d,_,h1,h2⟩:=h
  exact ⟨[],⟨rfl,h2⟩,rfl,by rw [h1];exact rdR.nil hk⟩
 | x :: xs,ds,F,h,hA => by
  obtain ⟨c,e,G,H,rfl,rfl,hx,hc,h1,h2⟩:=h.cons_inv
  obtain ⟨y,k1,k5,k2⟩:=tagC_of' h1 (fun b hb => hA b (List.mem_append_left _ hb))
  obtain ⟨ys,k3,k6,k4⟩:=tagL_of' hk h2 (fun b hb => hA b (List.mem_append_right _ hb))
  exact ⟨y :: ys,⟨y,ys,G,H,rfl,rfl,k1,k3⟩,⟨_,_,rfl,k5,k6⟩,(rdR.single hk (by rw [k1.len,hx]) k2).append k4⟩
section
variable {P:Program} {cfg:Cfg} {M:Nat→Prop} {ops:Array Oper} {s:St} {w0:W0} {w:World} {Ok:Nat→Prop} {N:Nat} {σ:Asg} {a:Act} {fs:List Fr} {Q:Exit→St→Prop}
theorem Sim.tagO' (h:Sim w0 Ok N σ s a w) {key k:Nat} {xs:List (List D)} (hk:look key s.heap = some (.row k xs true)) :
  ∃ xs' F,TagL xs xs' F∧PlainL xs xs'∧F.Nodup∧(∀ b ∈ F,w0.mine b)∧Sim w0 Ok N σ ⟨s.regs,insR key (.row k xs' false) s.heap⟩ a w:=by
 have hro:=h.rows key _ hk
 obtain ⟨ds,hrow,hkp,hel⟩:=hro.row
 have hel:ownR k w ds xs (σ.F key):=hel
 have hfp:fp σ key (.row k xs true) = (σ.g key).toList ++ σ.F key:=rfl
 obtain ⟨xs',ht,hpl,hrd⟩:=tagL_of' (A:=Zn σ s.heap w) hkp hel (RowOK.Fz h.ok1 h.rows h.disj hk rfl)
 refine ⟨xs',σ.F key,ht,hpl,?_,fun b hb => hro.fresh b (by rw [hfp];exact List.mem_append_right _ hb),?_⟩
 ·have:=hro.nodup;rw [hfp] at this;exact (List.nodup_append.1 this).2.1
 have hl:∀ q o',look q (insR key (.row k xs' false) s.heap) = some o'→∃ o,look q s.heap = some o∧o.k = o'.k∧o.len = o'.len∧(∀ b ∈ fp σ q o',b ∈ fp σ q o)∧(q = key∧o' = .row k xs' false ∨ q ≠ key∧o' = o):=by
  intro q o' ho'
  rw [jV] at ho'
  split at ho'
  ·rename_i e
   subst e
   cases ho'
   refine ⟨_,hk,rfl,ht.len.symm,fun b hb => ?_,.inl ⟨rfl,rfl⟩⟩
   have hb:b ∈ (σ.g key).toList ++ []:=hb
   rw [hfp]
   rw [List.append_nil] at hb
   exact List.mem_append_left _ hb
  ·rename_i e
   exact ⟨o',ho',rfl,rfl,fun _ hb => hb,.inr ⟨fun e' => e e'.symm,rfl⟩⟩
 have hZ:jZ σ σ s.heap (insR key (.row k xs' false) s.heap) w w:=fun b hb => ⟨⟨hb.1,hb.2.1,fun q o' ho' => by obtain ⟨o,ho,_⟩:=hl q o' ho';exact hb.2.2 q o ho⟩,rfl⟩
 have hst:∀ q,jU σ σ s.heap (insR key (.row k xs' false) s.heap) q:=fun q o' ho' => by obtain ⟨o,ho,h1,h2,_⟩:=hl q o' ho';exact ⟨o,ho,h1,h2,rfl,rfl⟩
 refine h.step rfl h.below hZ (fun _ _ => rfl) (fun r av hr => ⟨av,hr,.inl ⟨rfl,fun q _ => hst q⟩⟩) (fun q o' ho' => ?_) (fun p o1 q u hp hq hpq b hb hb' => ?_)
 ·obtain ⟨o,ho,h1,h2,h3,h4⟩:=hl q o' ho'
  rcases h4 with ⟨rfl,rfl⟩|⟨hq,rfl⟩
  ·obtain rfl:o = .row k xs true:=by rw [hk] at ho;cases ho;rfl
   refine ⟨⟨ds,?_,hkp,?_⟩,fun b hb => hro.fresh b (h3 b hb),?_⟩
   ·show Row w (slv (σ.g q) xs'.length (σ.cap q)) k xs'.length ds (σ.g q)
    rw [ht.len];exact hrow
   ·show rdR k _ w ds xs'
    exact hrd.mono (fun b hb _ => (hZ b hb).1)
   ·have hn:=hro.nodup
    rw [hfp] at hn
    show ((σ.g q).toList ++ []).Nodup
    rw [List.append_nil]
    exact (List.nodup_append.1 hn).1
  ·exact RowOK.keep h.ok1 h.rows h.disj ho hZ (fun q' _ => hst q') rfl rfl rfl (fun _ _ => rfl)
 ·obtain ⟨o2,ho2,_,_,h3,_⟩:=hl p o1 hp
  obtain ⟨u2,hu2,_,_,h4,_⟩:=hl q u hq
  exact h.disj p o2 q u2 ho2 hu2 hpq b (h3 b hb) (h4 b hb')
theorem qQ.tag' {c:Code} (key:Nat) {k:Nat} {xs:List (List D)} (hk:look key s.heap = some (.row k xs true)) (h:∀ xs' F,TagL xs xs' F→PlainL xs xs'→F.Nodup→(∀ b ∈ F,M b)→qQ P cfg M c fs Q ⟨s.regs,insR key (.row k xs' false) s.heap⟩):qQ P cfg M c fs Q s:=by
 intro w0 Ok σ a w Q' hM hS hQ
 obtain ⟨xs',F,h1,h5,h2,h3,h4⟩:=Sim.tagO' hS hk
 exact h xs' F h1 h5 h2 (fun b hb => hM.1 ▸ h3 b hb) w0 Ok σ a w Q' hM h4 hQ
end
section
variable {P:Program} {cfg:Cfg} {M:Nat→Prop} {ops:Array Oper} {s:St}
theorem qV.callEf (C:CfgOK P cfg) {o:Oper} {l:List Oper} {Q:St→Prop} (hg:o.guard = none) {d:Nat} (hod:o.dst = some d) (hdN:d < cfg.N) {f:Operand} {args:Array Operand} {ts:Array TypeId} {g:FuncId}
  (ho:o.op = .call ⟨.value f,args,ts⟩) (hf:((opv s.regs f).bind avD).bind fnId = some g) {x:Operand} {xpost:List Operand} {tpost:List TypeId} (ha:args.toList = x :: xpost) {t0:TypeId} (hts:ts.toList = t0 :: tpost) {post:List (List D)}
  (hpost:aargs cfg (fun k => look k s.heap) s.regs xpost tpost = some post) (hr2:qL s.regs xpost = []) {key n k:Nat} {xs:List (List D)} (hxv:opv s.regs x = some (.c (.own key n))) (hk:look key s.heap = some (.row k xs false))
  (hnr:∀ q u,q ≠ key→look q s.heap = some u→key ∉ u.refs) {Q0:List Res→Option (List (List D))→Prop} (hfn:AEf P g false [] k xs post Q0) {R:List (List D)→Prop} (hQ0:∀ rs oc,Q0 rs oc→rs = []∧∃ ys,oc = some ys∧R ys)
  (h:∀ ys,R ys→qV P cfg M ops l Q ⟨insR d (.tup []) s.regs,insR key (.row k ys false) s.heap⟩):qV P cfg M ops (o :: l) Q s:=by
 intro w0 Ok σ a w Q' hM hS hQ
 refine wpList_step (fun K hK => ?_)
 have hw:jQ ops s.regs o = some true:=by unfold jQ;rw [hg]
 rw [xH hS hw]
 simp only [if_true]
 refine n_callE C hS ho hf (ptr:=false) (xpre:=[]) (tpre:=[]) (pre:=[]) (by rw [ha];rfl) rfl hpost rfl hr2 hxv hk (fun e => nomatch e) hnr hfn (dk:=d) (fun rs oc hq q ob hl => ?_) (fun rs oc hq v w' σ' hv hS' => ?_)
 ·obtain ⟨rfl,_⟩:=hQ0 _ _ hq
  cases hl
 ·obtain ⟨rfl,ys,rfl,hR⟩:=hQ0 _ _ hq
  rw [hod]
  have hsub:∀ q o',look q (insR key (.row k ys false) s.heap) = some o'→look q (heapE key k (some ys) [] s.heap) = some o':=by
   intro q o' hq
   rw [jV] at hq
   unfold heapE
   rw [List.nil_append,jH,look_left]
   simp only
   by_cases e:key = q
   ·rw [if_pos e];rw [if_pos e] at hq;exact hq
   ·rw [if_neg e]
    rw [if_neg e] at hq
    rw [jN,if_neg (fun h => e h.symm)]
    exact hq
  have hR':Sim w0 Ok cfg.N σ' ⟨s.regs,heapE key k (some ys) [] s.heap⟩ a w':=hS'
  exact hK _ _ (h ys hR w0 Ok σ' _ _ Q' hM (Sim.ins (hR'.forget (fun _ _ h => h) hsub) hdN (hv.sub hsub)) hQ)
end
end Go.Proofs.YtedgfkpfhonlpaaGreat
namespace Go.Proofs.YtedgfkpfhonlpaaGreat
open Go.RowKit
theorem exists_not {l:List Nat}:∃ k,k ∉ l:=by
 have key:∀ (l:List Nat),∀ x ∈ l,x ≤ l.sum:=by
  intro l
  induction l with
  | nil => intro x hx;cases hx
  | cons y l ih =>
   intro x hx
   rw [List.sum_cons]
   rcases List.mem_cons.1 hx with rfl|hx
   ·omega
   ·have:=ih x hx;omega
 exact ⟨l.sum + 1,fun h => by have:=key l _ h;omega⟩
theorem exists_free (s:St):∃ k,Free s k:=by
 obtain ⟨k,hk⟩:=exists_not (l:=s.heap.map (·.1) ++ s.regs.flatMap (·.2.refs) ++ s.heap.flatMap (·.2.refs))
 simp only [List.mem_append,not_or] at hk
 obtain ⟨⟨h1,h2⟩,h3⟩:=hk
 refine ⟨k,?_,fun r av hr hm => h2 (List.mem_flatMap.2 ⟨_,yW hr,hm⟩),fun q u hq hm => h3 (List.mem_flatMap.2 ⟨_,yW hq,hm⟩)⟩
 cases e:look k s.heap with
 | none => rfl
 | some o => exact absurd (List.mem_map.2 ⟨_,yW e,rfl⟩) h1
theorem AC.frz_id {key k:Nat} {xs:List (List D)} {x:AC} (h:key ∉ x.refs):x.frz key k xs = x:=by
 cases x with
 | own q n => simp only [AC.refs,List.mem_singleton] at h;simp only [AC.frz];rw [if_neg (fun e => h e.symm)]
 | view q i n => simp only [AC.refs,List.mem_singleton] at h;simp only [AC.frz];rw [if_neg (fun e => h e.symm)]
 | _ => rfl
theorem qA0 {key k:Nat} {xs:List (List D)}:∀ {cs:List AC},key ∉ cs.flatMap AC.refs→cs.map (AC.frz key k xs) = cs
 | [],_ => rfl
 | c :: cs,h => by
  rw [List.flatMap_cons,List.mem_append,not_or] at h
  rw [List.map_cons,AC.frz_id h.1,qA0 h.2]
theorem AV.frz_id {key k:Nat} {xs:List (List D)} {x:AV} (h:key ∉ x.refs):x.frz key k xs = x:=by
 cases x with
 | c x => simp only [AV.frz];rw [AC.frz_id h]
 | eptr => rfl
 | optr q i j => simp only [AV.refs,List.mem_singleton] at h;simp only [AV.frz];rw [if_neg (fun e => h e.symm)]
 | agg cs => simp only [AV.frz];rw [qA0 h]
 | tup cs => simp only [AV.frz];rw [qA0 h]
 | dead => rfl
theorem Obj.frz_id {key k:Nat} {xs:List (List D)} {o:Obj} (h:key ∉ o.refs):o.frz key k xs = o:=by
 cases o with
 | row => rfl
 | pin => rfl
 | lit k' css =>
  simp only [Obj.frz]
  congr 1
  have h:key ∉ css.flatMap (·.flatMap AC.refs):=h
  have:∀ css:List (List AC),key ∉ css.flatMap (·.flatMap AC.refs)→css.map (·.map (AC.frz key k xs)) = css:=by
   intro css
   induction css with
   | nil => intro _;rfl
   | cons c css ih =>
    intro h
    rw [List.flatMap_cons,List.mem_append,not_or] at h
    rw [List.map_cons,qA0 h.1,ih h.2]
  exact this css h
section
variable {P:Program} {cfg:Cfg} {M:Nat→Prop} {ops:Array Oper} {s s':St} {w0:W0} {w:World} {Ok:Nat→Prop} {N:Nat} {σ:Asg} {a:Act} {fs:List Fr} {Q:Exit→St→Prop} {T:Tab P}
def valD:AV→Option D
 | .c (.val d) => some d
 | _ => Option.none
def xS (cfg:Cfg) (ops:Array Oper) (o:Oper) (s:St):Option Tel :=
 match o.op with
 | .buildSlice t len parts => if dstOK cfg o = true∧jQ ops s.regs o = some true then
   o.dst.bind fun d => (cfg.sl t).bind fun i => if len = parts.size∧len * i.z.length ≤ 16777216 then (yI s.regs 0 parts.toList).bind fun css => (rowsD i.z css).map fun r => ⟨⟨d,.c (.val (.sl i.z.length r.1)),[]⟩,qL s.regs o.op.operands.toList⟩ else Option.none
  else Option.none
 | .assign x => if dstOK cfg o = true∧jQ ops s.regs o = some true then
   o.dst.bind fun d => ((opv s.regs x).bind valD).map fun v => ⟨⟨d,.c (.val v),[]⟩,[]⟩
  else Option.none
 | _ => Option.none
theorem jF.asg (C:CfgOK P cfg) {i:Nat} {o:Oper} (hi:ops[i]? = some o) {x:Operand} (hop:o.op = .assign x) (hd:dstOK cfg o = true) {d:Nat} (hdd:o.dst = some d) (hb:jQ ops s.regs o = some true) {v:D} (hv:opv s.regs x = some (.c (.val v))):jF P cfg ops i s ⟨⟨d,.c (.val v),[]⟩,[]⟩:=by
 refine ⟨o,hi,hdd,fun s' h1 h2 h3 w0 Ok σ a w K Q hhd hS hK => ?_⟩
 have hw:jQ ops s'.regs o = some true:=by rw [vE h1,hb]
 have hov:opv s'.regs x = some (.c (.val v)):=by
  rw [← hv]
  cases x with
  | tmp t =>
   have:=h1 t (jG0 (by rw [hop];simp [Op.operands]))
   simp only [opv,this]
  | _ => rfl
 have hst:astep cfg ops o s' = some (s'.add ⟨d,.c (.val v),[]⟩):=by
  unfold astep
  rw [if_pos hd,hw]
  simp only [Option.bind_some,if_true,hop,isMut,hdd,amut,hov]
  rfl
 have:=astep_wp C hS hst hK (Q:=Q)
 unfold wpOp
 simp only [hi]
 split
 ·rename_i hw2;rw [if_pos hw2] at this;exact .inl this
 ·rename_i hw2;rw [if_neg hw2] at this;exact this
theorem jF.lit (C:CfgOK P cfg) {i:Nat} {o:Oper} (hi:ops[i]? = some o) {t:Tel} (h:xS cfg ops o s = some t):jF P cfg ops i s t:=by
 unfold xS at h
 split at h
 ·rename_i ty len parts hop
  split at h
  ·rename_i hc
   obtain ⟨d,hd,h⟩:=bind_some h
   obtain ⟨it,hit,h⟩:=bind_some h
   split at h
   ·rename_i hsz
    obtain ⟨css,hcss,h⟩:=bind_some h
    obtain ⟨⟨xs,b⟩,hr,rfl⟩:=map_some h
    refine ⟨o,hi,hd,fun s' h1 h2 h3 w0 Ok σ a w K Q hhd hS hK => ?_⟩
    have hw:jQ ops s'.regs o = some true:=by rw [vE h1,hc.2]
    have hopl:o.op.operands.toList = parts.toList.map (·.2):=by rw [hop];rfl
    have hag:=agree_of (xs:=o.op.operands.toList) (fun x hx => hx) h1 h2
    rw [hopl] at hag
    have hcss':yI s'.regs 0 parts.toList = some css:=by rw [qS0 hag,hcss]
    obtain ⟨q,hq⟩:=exists_free s'
    have hmk:mkObj it.z css = some (.row it.z.length xs b):=by unfold mkObj;rw [hr]
    have ha:anew cfg (fun k => look k s'.heap) s'.regs q o.op = some (.c (.own q len),[(q,.row it.z.length xs b)]):=by
     rw [hop]
     simp only [anew,hit,Option.bind_some]
     rw [if_pos hsz,hcss']
     simp only [Option.bind_some,hmk,Option.map_some]
    unfold wpOp
    simp only [hi,xH hS hw,if_true]
    left
    have hdN:d < cfg.N:=by have:=hc.1;rw [dstOK,hd] at this;simpa using this
    refine anew_doesF C hS (news:=[(q,.row it.z.length xs b)]) (av:=.c (.own q len)) ha (fun p ob hp => ?_) _ _ (fun v w' σ' hv hS' => ?_)
    ·have hp:(if q = p then some (Obj.row it.z.length xs b) else none) = some ob:=hp
     split at hp
     ·rename_i e;subst e;exact hq
     ·cases hp
    ·rw [hd]
     have hS1:=Sim.ins hS' hdN hv
     have hS2:=Sim.frz hS1 q
     refine hK σ' _ _ ?_
     have hlq:look q (⟨insR d (.c (.own q len)) s'.regs,[(q,Obj.row it.z.length xs b)] ++ s'.heap⟩:St).heap = some (.row it.z.length xs b):=by show look q ((q,Obj.row it.z.length xs b) :: s'.heap) = _;rw [look,if_pos rfl]
     have e:(⟨insR d (.c (.own q len)) s'.regs,[(q,Obj.row it.z.length xs b)] ++ s'.heap⟩:St).frz q = ⟨frzR q it.z.length xs (insR d (.c (.own q len)) s'.regs),frzH q it.z.length xs (drop q ([(q,Obj.row it.z.length xs b)] ++ s'.heap))⟩:=by
      unfold St.frz;rw [hlq]
     rw [e] at hS2
     refine hS2.forget (fun r av hr => ?_) (fun k o' ho' => ?_)
     ·have hr:look r (insR d (.c (.val (.sl it.z.length xs))) s'.regs) = some av:=hr
      rw [jV] at hr
      show look r (frzR q it.z.length xs (insR d (.c (.own q len)) s'.regs)) = _
      rw [look_frzR,jV]
      by_cases er:d = r
      ·rw [if_pos er] at hr ⊢
       cases hr
       show some (AV.c (if q = q then AC.val (.sl it.z.length xs) else AC.own q len)) = _
       rw [if_pos rfl]
      ·rw [if_neg er] at hr ⊢
       rw [hr]
       show some (av.frz q it.z.length xs) = _
       rw [AV.frz_id (hq.2.1 r av hr)]
     ·have ho':look k s'.heap = some o':=ho'
      show look k (frzH q it.z.length xs (drop q ((q,Obj.row it.z.length xs b) :: s'.heap))) = _
      have hkq:k ≠ q:=by rintro rfl;rw [hq.1] at ho';cases ho'
      rw [look_frzH,jN,if_neg hkq,look,if_neg (fun e => hkq e.symm),ho']
      show some (o'.frz q it.z.length xs) = _
      rw [Obj.frz_id (hq.2.2 k o' ho')]
   ·cases h
  ·cases h
 ·rename_i x hop
  split at h
  ·rename_i hc
   obtain ⟨d,hd,h⟩:=bind_some h
   obtain ⟨v,hv,rfl⟩:=map_some h
   obtain ⟨av,h1,h2⟩:=bind_some hv
   have:av = .c (.val v):=by
    unfold valD at h2
    split at h2
    ·cases h2;rfl
    ·cases h2
   subst this
   exact jF.asg C hi hop hc.1 hd hc.2 h1
  ·cases h
 ·cases h
def kT (fz:List Nat) (cfg:Cfg) (T:Tab P) (ops:Array Oper) (o:Oper) (s:St):Option Tel :=
 bif fz.contains (o.dst.getD 0) then xS cfg ops o s else devalT cfg T ops o s
def drunF (fz:List Nat) (cfg:Cfg) (T:Tab P) (ops:Array Oper):List Oper→St→List Tel × St × List Oper
 | [],s => ([],s,[])
 | o :: l,s => match kT fz cfg T ops o s with
  | some t => ((t :: (drunF fz cfg T ops l (s.add t.e)).1),(drunF fz cfg T ops l (s.add t.e)).2)
  | Option.none => ([],s,o :: l)
theorem drunF_spec {fz:List Nat} (C:CfgOK P cfg):∀ {l:List Oper} {i:Nat} {s:St},(∀ j,l[j]? = ops[i + j]?)→Tr P cfg ops i s (drunF fz cfg T ops l s).1 ∧
  (drunF fz cfg T ops l s).2.1 = (drunF fz cfg T ops l s).1.foldl (fun s t => s.add t.e) s∧(drunF fz cfg T ops l s).2.2 = l.drop (drunF fz cfg T ops l s).1.length
 | [],i,s,_ => ⟨trivial,rfl,rfl⟩
 | o :: l,i,s,hl => by
  have hi:ops[i]? = some o:=by have:=hl 0;simpa using this.symm
  simp only [drunF]
  cases hd:kT fz cfg T ops o s with
  | none => exact ⟨trivial,rfl,rfl⟩
  | some t =>
   obtain ⟨h1,h2,h3⟩:=drunF_spec (fz:=fz) C (l:=l) (i:=i + 1) (s:=s.add t.e) (fun j => by have:=hl (j + 1);simpa [Nat.add_assoc,Nat.add_comm 1 j] using this)
   refine ⟨⟨?_,h1⟩,by simpa using h2,by simpa using h3⟩
   unfold kT at hd
   cases hb:fz.contains (o.dst.getD 0) with
   | true => rw [hb] at hd;exact jF.lit C hi hd
   | false => rw [hb] at hd;exact jF.opT C hi hd
def dregF (s:St):List Tel × St × List Oper→Option (List Tel × St × List Oper)
 | (tr,s1,rest) => if tr.all (fun t => t.e.news.all fun p => fresh s p.1) = true then some (tr,s1,rest) else Option.none
theorem vJ (s:St) (tr:List Tel) (s1:St) (rest:List Oper):dregF s (tr,s1,rest) = if tr.all (fun t => t.e.news.all fun p => fresh s p.1) = true then some (tr,s1,rest) else Option.none:=rfl
theorem qQ.wFz (C:CfgOK P cfg) (T:Tab P) (hm:P.follows .mixedOrders = true) (fz:List Nat) {id:Nat} {tr:List Tel} {s1:St} {rest:List Oper} (hr:Work (dregF s (drunF fz cfg T ops ops.toList s)) (some (tr,s1,rest))) (h1:ChkD ops tr)
  (h:qV P cfg M ops rest (outK P cfg M fs Q .normal) s1):qQ P cfg M (.region id ops true) fs Q s:=by
 have hr:dregF s (drunF fz cfg T ops ops.toList s) = some (tr,s1,rest):=hr
 obtain ⟨⟨tr0,s10,rest0⟩,e⟩:∃ r,r = drunF fz cfg T ops ops.toList s:=⟨_,rfl⟩
 rw [← e,vJ] at hr
 split at hr
 ·rename_i hf
  cases hr
  obtain ⟨k1,k2,k3⟩:=drunF_spec (T:=T) (fz:=fz) C (ops:=ops) (l:=ops.toList) (i:=0) (s:=s) (fun j => by simp)
  rw [← e] at k1 k2 k3
  refine qU.draw hm k1 h1 hf ?_
  show qV P cfg M ops (ops.toList.drop tr.length) _ (tr.foldl (fun s t => s.add t.e) s)
  rw [← k2,← k3]
  exact h
 ·cases hr
end
end Go.Proofs.YtedgfkpfhonlpaaGreat
namespace Go.Proofs.YtedgfkpfhonlpaaGreat
open Go.RowKit
def D.marks:D→List Nat
 | .tag F _ => F
 | _ => []
def kO (xs:List (List D)):List Nat:=xs.flatMap (·.flatMap D.marks)
theorem rowMarks_rd {A:Nat→Prop} {w:World} {k:Nat} {ds:List Value} {xs:List (List D)} (h:rdR k A w ds xs):∀ b ∈ kO xs,A b:=by
 intro b hb
 obtain ⟨x,hx,hb⟩:=List.mem_flatMap.1 hb
 obtain ⟨d,hd,hb⟩:=List.mem_flatMap.1 hb
 obtain ⟨i,hi,rfl⟩:=List.getElem_of_mem hx
 obtain ⟨c,h1,_⟩:=h.get i hi
 obtain ⟨j,hj,rfl⟩:=List.getElem_of_mem hd
 obtain ⟨v,_,h2⟩:=h1.get j hj
 cases e:(xs[i])[j] with
 | tag F x =>
  rw [e] at h2 hb
  exact (xO.1 h2).1 b hb
 | _ => rw [e] at hb;cases hb
section
variable {P:Program} {cfg:Cfg} {M:Nat→Prop} {ops:Array Oper} {s:St} {w0:W0} {w:World} {Ok:Nat→Prop} {N:Nat} {σ:Asg} {a:Act} {fs:List Fr} {Q:Exit→St→Prop}
theorem qU.fresh {c:Code} (hd:s.heap.all (fun p => !p.2.deep) = true)
  (h:∀ M':Nat→Prop,(∀ b,M' b→M b)→(∀ key k xs,look key s.heap = some (.row k xs false)→∀ b ∈ kO xs,¬ M' b)→qU P cfg M' c Q s):qU P cfg M c Q s:=by
 intro w0 Ok σ a w Q' hM hS hQ
 have hdeep:∀ q o,look q s.heap = some o→o.deep = false:=fun q o hq => by
  have:=List.all_eq_true.1 hd _ (yW hq)
  simpa using this
 let w1:W0:=@W0.mk w (fun b => ∃ q o,look q s.heap = some o∧b ∈ fp σ q o) w0.hd
 have hmine:∀ b,w1.mine b→w0.mine b:=by
  rintro b (hb|⟨q,o,hq,hb⟩)
  ·exact .inl (Nat.le_trans hS.below.size hb)
  ·exact (hS.rows q o hq).fresh b hb
 have hS1:Sim w1 σ.ok cfg.N σ s a w:=⟨⟨rfl,rfl,rfl,Nat.le_refl _,fun _ _ _ _ => rfl⟩,fun b hb => hS.ok1 b (hmine b hb),fun b hb => .inl hb,hS.defers,hS.size,hS.regs,
  fun key o hk => ⟨(hS.rows key o hk).row,fun b hb => .inr ⟨key,o,hk,hb⟩,(hS.rows key o hk).nodup⟩,hS.disj,hS.inv,fun b hb => ⟨fun hm => (hS.hid b hb).1 (hmine b hm),(hS.hid b hb).2⟩⟩
 refine h w1.mine (fun b hb => hM.1 ▸ hmine b hb) ?_ w1 σ.ok σ a w Q' ⟨rfl,hM.2⟩ hS1 (fun e s' hq σ' a' w' hS' => ?_)
 ·intro key k xs hk b hb hm
  obtain ⟨ds,_,_,hel⟩:=(hS.rows key _ hk).row
  have hel:rdR k (Zn σ s.heap w) w ds xs:=hel
  have hz:=rowMarks_rd hel b hb
  rcases hm with hm|⟨q,o,hq,hm⟩
  ·have hm:w.heap.size ≤ b:=hm
   have:=hz.1;omega
  ·unfold fp at hm
   rw [hdeep q o hq] at hm
   exact hz.2.2 q o hq (by simpa using hm)
 ·let σ2:Asg:=⟨σ'.g,σ'.cap,σ'.F,fun b => σ'.ok b ∨ w0.mine b⟩
  have hZ:jZ σ' σ2 s'.heap s'.heap w' w':=fun b hb => ⟨⟨hb.1,.inl hb.2.1,hb.2.2⟩,rfl⟩
  have hst:∀ k,jU σ' σ2 s'.heap s'.heap k:=fun k o' ho' => ⟨o',ho',rfl,rfl,rfl,rfl⟩
  refine hQ e s' hq σ2 a' w' ⟨hS.below.trans3 hS'.below (fun b hb => hmine b (.inr hb)),fun b hb => .inr hb,?_,hS'.defers,hS'.size,fun r av hr => (hS'.regs r av hr).step hZ (fun k _ => hst k),fun key o hk => ?_,hS'.disj,w0.hd.law hS'.inv (fun b hb => hZ b hb) (fun _ _ => rfl),fun b hb => ⟨(hS.hid b hb).1,fun h => h.elim (hS'.hid b hb).2 (hS.hid b hb).1⟩⟩
  ·rintro b (hb|hb)
   ·rcases hS'.ok2 b hb with h1|h1
    ·exact hS.ok2 b h1
    ·exact .inr (hmine b h1)
   ·exact .inr hb
  ·have hr:=RowOK.keep (σ':=σ2) hS'.ok1 hS'.rows hS'.disj hk hZ (fun k _ => hst k) rfl rfl rfl (fun _ _ => rfl)
   exact ⟨hr.row,fun b hb => hmine b (hr.fresh b hb),hr.nodup⟩
theorem qQ.fresh {c:Code} (hd:s.heap.all (fun p => !p.2.deep) = true)
  (h:∀ M':Nat→Prop,(∀ b,M' b→M b)→(∀ key k xs,look key s.heap = some (.row k xs false)→∀ b ∈ kO xs,¬ M' b)→qQ P cfg M' c [] Q s):qQ P cfg M c [] Q s :=
 qU.fresh hd h
theorem Sim.openR (h:Sim w0 Ok N σ s a w) {r k:Nat} {G:List Nat} {xs:List (List D)} (hr:look r s.regs = some (.c (.val (.tag G (.sl k xs))))) :
  ∃ xs' F,TagL xs xs' F∧PlainL xs xs'∧F.Sublist G∧Sim w0 Ok N σ ⟨insR r (.c (.val (.sl k xs'))) s.regs,s.heap⟩ a w:=by
 obtain ⟨hv1,hv2⟩:=h.regs r _ hr
 have hv2:rdV (Zn σ s.heap w) w (a.eval (.tmp r)) (.tag G (.sl k xs)):=hv2
 obtain ⟨hG,hown⟩:=xO.1 hv2
 obtain ⟨og,ds,F,hrow,hel,rfl⟩:=kA.1 hown
 have hkp:0 < k:=hel.rd.pos
 obtain ⟨xs',ht,hpl,hrd⟩:=tagL_of' (A:=Zn σ s.heap w) hkp hel (fun b hb => hG b (List.mem_append_right _ hb))
 refine ⟨xs',F,ht,hpl,List.sublist_append_right _ _,⟨h.below,h.ok1,h.ok2,h.defers,h.size,fun q av hq => ?_,h.rows,h.disj,h.inv,h.hid⟩⟩
 rw [jV] at hq
 by_cases e:r = q
 ·rw [if_pos e] at hq
  subst e
  cases hq
  refine ⟨hv1,?_⟩
  show rdV _ w (a.eval (.tmp r)) (.sl k xs')
  obtain ⟨oa,c',ev,k1,k2,k3,k4⟩:=hrow.value
  rw [ev,← ht.len]
  refine yT.2 ⟨oa,c',ds,rfl,by rw [ht.len];exact k1,k2,k3,hrd,?_⟩
  cases og with
  | none =>
   left
   have h0:=hrow.len0
   exact List.eq_nil_of_length_eq_zero (by rw [hrow.1,h0,Nat.zero_mul])
  | some g =>
   refine .inr ⟨g,0,k4,hG g (by simp),fun j u hj => ?_⟩
   rw [Nat.zero_add]
   exact hrow.cells j u hj
 ·rw [if_neg e] at hq
  exact h.regs q av hq
end
end Go.Proofs.YtedgfkpfhonlpaaGreat
namespace Go.Proofs
open Go.Shelf
def Tryz.sortSp_ren:Go.Shelf.Ren:=⟨fun|6 => 122|15 => 160|14 => 182|28 => 212|29 => 213|20 => 221|21 => 222|22 => 223|23 => 224|24 => 225|25 => 226|26 => 227|27 => 228|46 => 261|47 => 251|48 => 252|49 => 262|50 => 263|57 => 276|n => n,fun|22 => 33|24 => 42|25 => 144|3 => 3|39 => 137|0 => 0|53 => 214|55 => 28|4 => 4|46 => 208|45 => 207|50 => 185|5 => 5|9 => 9|66 => 236|70 => 240|76 => 252|77 => 253|n => n,fun|n => n⟩
theorem Tryz.sortSp:Go.Proofs.SlLaysF0.n6 Tryz.prog Tryz.sortSp_ren:={
 mixed:=by kernel_rfl
 f6:=⟨Tryz.f122.name,by decide,Tryz.func122.trans (congrArg some (by kernel_rfl))⟩
 f14:=⟨Tryz.f182.name,by decide,Tryz.func182.trans (congrArg some (by kernel_rfl))⟩
 f15:=Tryz.func160.trans (congrArg some (by kernel_rfl))
 f20:=⟨Tryz.f221.name,by decide,Tryz.func221.trans (congrArg some (by kernel_rfl))⟩
 f21:=⟨Tryz.f222.name,by decide,Tryz.func222.trans (congrArg some (by kernel_rfl))⟩
 f22:=⟨Tryz.f223.name,by decide,Tryz.func223.trans (congrArg some (by kernel_rfl))⟩
 f23:=⟨Tryz.f224.name,by decide,Tryz.func224.trans (congrArg some (by kernel_rfl))⟩
 f24:=⟨Tryz.f225.name,by decide,Tryz.func225.trans (congrArg some (by kernel_rfl))⟩
 f25:=⟨Tryz.f226.name,by decide,Tryz.func226.trans (congrArg some (by kernel_rfl))⟩
 f26:=⟨Tryz.f227.name,by decide,Tryz.func227.trans (congrArg some (by kernel_rfl))⟩
 f27:=⟨Tryz.f228.name,by decide,Tryz.func228.trans (congrArg some (by kernel_rfl))⟩
 f28:=Tryz.func212.trans (congrArg some (by kernel_rfl))
 f29:=Tryz.func213.trans (congrArg some (by kernel_rfl))
 f46:=⟨Tryz.f261.name,by decide,Tryz.func261.trans (congrArg some (by kernel_rfl))⟩
 f47:=Tryz.func251.trans (congrArg some (by kernel_rfl))
 f48:=Tryz.func252.trans (congrArg some (by kernel_rfl))
 f49:=⟨Tryz.f262.name,by decide,Tryz.func262.trans (congrArg some (by kernel_rfl))⟩
 f50:=⟨Tryz.f263.name,by decide,Tryz.func263.trans (congrArg some (by kernel_rfl))⟩
 f57:=⟨Tryz.f276.name,by decide,Tryz.func276.trans (congrArg some (by kernel_rfl))⟩
 t0:=Tryz.underlying0
 a0:=Tryz.isAgg0
 z0:=Tryz.sizeOf0
 v0:=Tryz.zeroValue0
 t3:=Tryz.underlying3
 a3:=Tryz.isAgg3
 z3:=Tryz.sizeOf3
 v3:=Tryz.zeroValue3
 t4:=Tryz.underlying4
 a4:=Tryz.isAgg4
 z4:=Tryz.sizeOf4
 v4:=Tryz.zeroValue4
 t5:=Tryz.underlying5
 a5:=Tryz.isAgg5
 z5:=Tryz.sizeOf5
 v5:=Tryz.zeroValue5
 t9:=Tryz.underlying9
 a9:=Tryz.isAgg9
 z9:=Tryz.sizeOf9
 v9:=Tryz.zeroValue9
 t22:=Tryz.underlying33
 a22:=Tryz.isAgg33
 z22:=Tryz.sizeOf33
 v22:=Tryz.zeroValue33
 t25:=Tryz.underlying144
 a25:=Tryz.isAgg144
 z25:=Tryz.sizeOf144
 v25:=Tryz.zeroValue144
 t39:=Tryz.underlying137
 a39:=Tryz.isAgg137
 z39:=Tryz.sizeOf137
 v39:=Tryz.zeroValue137
 t45:=Tryz.underlying207
 a45:=Tryz.isAgg207
 z45:=Tryz.sizeOf207
 v45:=Tryz.zeroValue207
 t46:=Tryz.underlying208
 a46:=Tryz.isAgg208
 z46:=Tryz.sizeOf208
 v46:=Tryz.zeroValue208
 t50:=Tryz.underlying185
 a50:=Tryz.isAgg185
 z50:=Tryz.sizeOf185
 v50:=Tryz.zeroValue185
 t53:=Tryz.underlying214
 a53:=Tryz.isAgg214
 z53:=Tryz.sizeOf214
 v53:=Tryz.zeroValue214
 t55:=Tryz.underlying28
 a55:=Tryz.isAgg28
 z55:=Tryz.sizeOf28
 v55:=Tryz.zeroValue28
 t66:=Tryz.underlying236
 a66:=Tryz.isAgg236
 z66:=Tryz.sizeOf236
 v66:=Tryz.zeroValue236
 t70:=Tryz.underlying240
 a70:=Tryz.isAgg240
 z70:=Tryz.sizeOf240
 v70:=Tryz.zeroValue240
 t76:=Tryz.underlying252
 a76:=Tryz.isAgg252
 z76:=Tryz.sizeOf252
 v76:=Tryz.zeroValue252
 t77:=Tryz.underlying253
 a77:=Tryz.isAgg253
 z77:=Tryz.sizeOf253
 v77:=Tryz.zeroValue253 }
end Go.Proofs
namespace Go.Proofs.YtedgfkpfhonlpaaGreat
open Go.RowKit
section
variable {P:Program} {cfg:Cfg} {M:Nat→Prop} {ops:Array Oper} {s:St} {w0:W0} {w:World} {Ok:Nat→Prop} {N:Nat} {σ:Asg} {a:Act} {fs:List Fr} {Q:Exit→St→Prop}
theorem relCs_repl {H:List (Nat × Obj)} {x y:AC} {post:List AC}:∀ {pre:List AC} {us:List Value},relCs σ H w (pre ++ x :: post) us→(∀ v,us[pre.length]? = some v→relAC σ H w x v→relAC σ H w y v)→relCs σ H w (pre ++ y :: post) us
 | [],us,h,hy => by
  obtain ⟨v,us',rfl,h1,h2,h3⟩:=h
  exact ⟨v,us',rfl,h1,hy v rfl h2,h3⟩
 | p :: pre,us,h,hy => by
  obtain ⟨v,us',rfl,h1,h2,h3⟩:=h
  exact ⟨v,us',rfl,h1,h2,relCs_repl h3 (fun u hu hx => hy u (by simpa using hu) hx)⟩
theorem relCs_at {H:List (Nat × Obj)} {x:AC} {post:List AC}:∀ {pre:List AC} {us:List Value},relCs σ H w (pre ++ x :: post) us→∀ v,us[pre.length]? = some v→relAC σ H w x v
 | [],us,h,v,hv => by
  obtain ⟨u,us',rfl,h1,h2,h3⟩:=h
  have:u = v:=by simpa using hv
  subst this;exact h2
 | p :: pre,us,h,v,hv => by
  obtain ⟨u,us',rfl,h1,h2,h3⟩:=h
  exact relCs_at h3 v (by simpa using hv)
theorem Sim.markA (h:Sim w0 Ok N σ s a w) {r key k n:Nat} {xs:List (List D)} {pre post:List AC} (hr:look r s.regs = some (.agg (pre ++ .own key n :: post))) (hk:look key s.heap = some (.row k xs true)) :
  Sim w0 Ok N σ ⟨insR r (.agg (pre ++ .val (.tag (fp σ key (.row k xs true)) (.sl k xs)) :: post)) s.regs,drop key s.heap⟩ a w:=by
 have hro:=h.rows key _ hk
 obtain ⟨ds,hrow,hkp,hel⟩:=hro.row
 have hel:ownR k w ds xs (σ.F key):=hel
 have hrow:Row w (slv (σ.g key) xs.length (σ.cap key)) k xs.length ds (σ.g key):=hrow
 have hs:∀ q o,look q (drop key s.heap) = some o→q ≠ key∧look q s.heap = some o:=fun q o hq => by
  rw [jN] at hq
  by_cases e:q = key
  ·rw [if_pos e] at hq;cases hq
  ·rw [if_neg e] at hq;exact ⟨e,hq⟩
 have h1:=h.forget (regs':=s.regs) (H':=drop key s.heap) (fun _ _ h => h) (fun q o hq => (hs q o hq).2)
 refine ⟨h1.below,h1.ok1,h1.ok2,h1.defers,h1.size,fun q av hq => ?_,h1.rows,h1.disj,h1.inv,h1.hid⟩
 rw [jV] at hq
 by_cases e:r = q
 ·rw [if_pos e] at hq
  subst e
  cases hq
  obtain ⟨us,hv1,hv2⟩:=h.regs r _ hr
  obtain ⟨us',hv1',hv2'⟩:=h1.regs r _ hr
  have eu:us' = us:=by rw [hv1] at hv1';simpa using hv1'.symm
  subst eu
  refine ⟨us',hv1,relCs_repl hv2' (fun v hv _ => ?_)⟩
  obtain ⟨e1,e2⟩:=relCs_at hv2 v hv _ hk
  have e1:n = xs.length:=e1
  show rdV _ w v (.tag _ (.sl k xs))
  rw [e2,e1]
  refine xO.2 ⟨fun b hb => ⟨?_,?_,fun q o hq e => ?_⟩,kA.2 ⟨σ.g key,ds,σ.F key,hrow,hel,rfl⟩⟩
  ·rcases List.mem_append.1 hb with hb|hb
   ·exact hrow.lt b (by simpa using hb)
   ·exact hel.lt b hb
  ·exact h.ok1 b (hro.fresh b hb)
  ·obtain ⟨hne,hq⟩:=hs q o hq
   exact h.disj key _ q o hk hq (fun e => hne e.symm) b hb (qC e)
 ·rw [if_neg e] at hq
  exact h1.regs q av hq
theorem qV.markA2 {l:List Oper} {Q:St→Prop} {r key1 key2 k1 k2 n1 n2:Nat} {xs ys:List (List D)} {z:List AC} (hr:look r s.regs = some (.agg (.own key1 n1 :: .own key2 n2 :: z))) (hk1:look key1 s.heap = some (.row k1 xs true))
  (hk2:look key2 s.heap = some (.row k2 ys true)) (hk:key1 ≠ key2)
  (h:∀ F G,(F ++ G).Nodup→(∀ b ∈ F ++ G,M b)→qV P cfg M ops l Q ⟨insR r (.agg (.val (.tag F (.sl k1 xs)) :: .val (.tag G (.sl k2 ys)) :: z)) (insR r (.agg (.val (.tag F (.sl k1 xs)) :: .own key2 n2 :: z)) s.regs),drop key2 (drop key1 s.heap)⟩):qV P cfg M ops l Q s:=by
 intro w0 Ok σ a w Q' hM hS hQ
 have h1:=hS.markA (r:=r) (pre:=[]) hr hk1
 have hk2':look key2 (drop key1 s.heap) = some (.row k2 ys true):=by rw [jN,if_neg (fun e => hk e.symm)];exact hk2
 have h2:=h1.markA (r:=r) (key:=key2) (n:=n2) (k:=k2) (xs:=ys) (pre:=[.val (.tag (fp σ key1 (.row k1 xs true)) (.sl k1 xs))]) (post:=z) (by rw [jV,if_pos rfl];rfl) hk2'
 have f1:=hS.rows key1 _ hk1
 have f2:=hS.rows key2 _ hk2
 refine h (fp σ key1 (.row k1 xs true)) (fp σ key2 (.row k2 ys true)) ?_ (fun b hb => ?_) w0 Ok σ a w Q' hM h2 hQ
 ·refine List.nodup_append.2 ⟨f1.nodup,f2.nodup,fun b hb c hc e => ?_⟩
  subst e
  exact hS.disj key1 _ key2 _ hk1 hk2 hk b hb hc
 ·rcases List.mem_append.1 hb with hb|hb
  ·exact hM.1 ▸ f1.fresh b hb
  ·exact hM.1 ▸ f2.fresh b hb
end
abbrev SpT:=(Spl × Int) × (List Nat × List Nat)
def eSpT (q:SpT):List D:=[.tag q.2.1 (.sl 1 (q.1.1.1.map eL)),.tag q.2.2 (.sl 1 (q.1.1.2.map eL)),.int q.1.2]
def SpT.bl (q:SpT):List Nat:=q.2.1 ++ q.2.2
theorem tag_mkS:∀ (zs:List SpT),TagL ((zs.map (·.1)).map eSp) (zs.map eSpT) ((zs.map SpT.bl).flatten)
 | [] => ⟨rfl,rfl⟩
 | z :: zs => ⟨_,_,SpT.bl z,_,rfl,rfl,⟨_,_,z.2.1,z.2.2,rfl,rfl,.inl rfl,⟨_,_,z.2.2,[],rfl,(List.append_nil _).symm,.inl rfl,⟨_,[],[],[],rfl,rfl,.inr ⟨rfl,rfl,rfl⟩,rfl,rfl⟩⟩⟩,tag_mkS zs⟩
theorem c_gathered1 (W:World) (n m:Int) (u1 u2 v1 v2:Value) (f g h k:List (List Int)) (h1:Rd (RS (RS RI)) W [u1] f) (h2:Rd (RS (RS RI)) W [u2] g) (h3:Rd (RS (RS RI)) W [v1] h) (h4:Rd (RS (RS RI)) W [v2] k) (s1:qJ f ≤ 1000000) (s2:qJ h ≤ 1000000) :
  Calls Tryz.prog 120 #[.agg #[u1,u2,.int .i64 n],.agg #[v1,v2,.int .i64 m]] W fun e w' => e = .returned (.int .i64 (cmpS (f,g) (h,k)))∧∃ q os',w' = Sort.grow (W.drewN q) os':=by
 obtain ⟨o1,c1,rfl,_,_⟩:=h1.val
 obtain ⟨o2,c2,rfl,_,_⟩:=h2.val
 obtain ⟨o3,c3,rfl,_,_⟩:=h3.val
 obtain ⟨o4,c4,rfl,_,_⟩:=h4.val
 have b1:Below W.heap.size W (W.alloc (.cells #[.slice o1 f.length c1,.slice o2 g.length c2,.int .i64 n] 42)):=(Below.refl _ _).alloc (Nat.le_refl _) _
 have b2:Below W.heap.size W ((W.alloc (.cells #[.slice o1 f.length c1,.slice o2 g.length c2,.int .i64 n] 42)).alloc (.cells #[.slice o3 h.length c3,.slice o4 k.length c4,.int .i64 m] 42)):=b1.alloc (by simp) _
 have hc:=jO0 _ _ f h _ (h1.below b2 (Nat.le_refl _)) (h3.below b2 (Nat.le_refl _)) (by omega) (by omega)
 have hd:=jD0 _ _ g k _ (h2.below b2 (Nat.le_refl _)) (h4.below b2 (Nat.le_refl _))
 have HC:=Lib.hid hc
 have HD:=Lib.hid hd
 have hcs:cmpS (f,g) (h,k) = if cmpF f h = 0 then cmpN g k else cmpF f h:=rfl
 by_cases hz:cmpF f h = 0
 ·have hb:(cmpF f h != 0) = false:=by simp [hz]
  rw [if_pos hz] at hcs
  have HS:=Lib.hid hcs
  clear hc hd b1 b2 h1 h2 h3 h4 hcs
  go_enter Tryz.func120,Tryz.ntmps120
  go_wp2_with (first|(go_at_call 87;refine HC.out.mono ?_;rintro e w' ⟨rfl,rfl⟩)|(go_at_call 121;refine HD.out.mono ?_;rintro e w' ⟨rfl,rfl⟩))
  go_ret
  exact ⟨by rw [HS.out] <;> rfl,0,_,by rw [Sort.alloc_eq_grow,Sort.alloc_eq_grow,Sort.grow_grow];rfl⟩
 ·have hb:(cmpF f h != 0) = true:=bne_iff_ne.2 hz
  rw [if_neg hz] at hcs
  have HS:=Lib.hid hcs
  clear hc hd b1 b2 h1 h2 h3 h4 hcs
  go_enter Tryz.func120,Tryz.ntmps120
  go_wp2_with (first|(go_at_call 87;refine HC.out.mono ?_;rintro e w' ⟨rfl,rfl⟩)|(go_at_call 121;refine HD.out.mono ?_;rintro e w' ⟨rfl,rfl⟩))
  go_ret
  exact ⟨by rw [HS.out] <;> rfl,0,_,by rw [Sort.alloc_eq_grow,Sort.alloc_eq_grow,Sort.grow_grow];rfl⟩
theorem a_compareTrunks (f g:List (List Int)) (hf:SmF f) (hg:SmF g):AFn Tryz.prog 121 [eLL f,eLL g] (· = [.val (.int (cmpN f g))]):=by
 refine ⟨enters_of Tryz.func121 rfl rfl,fun A w vs hA ⟨v1,_,e1,h1,v2,_,e2,h2,e3⟩ => ?_⟩
 subst e3;subst e2;subst e1
 have r1:=Rd.of (rdLL h1)
 have r2:=Rd.of (rdLL h2)
 obtain ⟨oa,c1,k1,m1,m2⟩:=r1.val
 obtain ⟨ob,c2,k2,m3,m4⟩:=r2.val
 refine (jD0 v1 v2 f g w r1 r2).mono ?_
 rintro e w' ⟨rfl,rfl⟩
 have hle:∀ {f:List (List Int)},SmF f→∀ t ∈ f,t.length ≤ maxLen:=fun h t ht => Nat.le_trans (yX ht) (Nat.le_trans h.2 (by decide))
 have hin:qB (cmpN f g):=by
  rw [cmpN_eq]
  have h3:=cmpF_in64 (f:=f) (g:=g) (by have:=hf.2;omega) (by have:=hg.2;omega) (by omega) (by omega) (hle hf) (hle hg)
  have hf1:=hf.1
  have hg1:=hg.1
  split
  ·rename_i e
   by_cases hs:(qJ f:Int) = qJ g
   ·rw [cmpF_N,if_pos hs,cmpN_eq,if_pos e] at h3;exact h3
   ·exact lexC_in64 f g (hle hf) (hle hg)
  ·unfold qB;omega
 exact ⟨_,_,rfl,rfl,Below.refl _ _,[_],[],[],rfl,List.nodup_nil,by simp,_,[],[],[],[],[],rfl,rfl,rfl,rfl,⟨qO.2 ⟨rfl,hin⟩,rfl,rfl⟩,rfl,rfl,rfl⟩
end Go.Proofs.YtedgfkpfhonlpaaGreat
namespace Go.Proofs.YtedgfkpfhonlpaaGreat
open Go.RowKit
def stepQ (out:List SpT) (q:SpT):List SpT:=match out.getLast? with
 | some p => if cmpS p.1.1 q.1.1 = 0 then out.dropLast ++ [((p.1.1,p.1.2 + 1),p.2)] else out ++ [q]
 | none => [q]
def runQ (zs:List SpT):List SpT:=zs.foldl stepQ []
theorem stepQ_nil (q:SpT):stepQ [] q = [q]:=rfl
theorem stepQ_eq (out:List SpT) (p q:SpT) (h:cmpS p.1.1 q.1.1 = 0):stepQ (out ++ [p]) q = out ++ [((p.1.1,p.1.2 + 1),p.2)]:=by simp [stepQ,h]
theorem stepQ_ne (out:List SpT) (p q:SpT) (h:¬ cmpS p.1.1 q.1.1 = 0):stepQ (out ++ [p]) q = out ++ [p] ++ [q]:=by simp [stepQ,h]
theorem runQ_snoc (zs:List SpT) (q:SpT):runQ (zs ++ [q]) = stepQ (runQ zs) q:=by unfold runQ;rw [List.foldl_append];rfl
theorem runQ_spec:∀ (n:Nat) (zs:List SpT),zs.length = n→(∀ q ∈ zs,q.1.2 = 1)→(runQ zs).map (·.1) = runsN cmpS (zs.map (·.1.1))∧((runQ zs).map SpT.bl).Sublist (zs.map SpT.bl)∧(runQ zs).length ≤ zs.length∧∀ q ∈ runQ zs,(1 ≤ q.1.2∧q.1.2 ≤ (n:Int))∧∃ p ∈ zs,p.1.1 = q.1.1
 | 0,zs,hn,_ => by
  obtain rfl:=List.eq_nil_of_length_eq_zero hn
  exact ⟨rfl,List.Sublist.refl _,Nat.le_refl _,fun q hq => nomatch hq⟩
 | n + 1,zs,hn,h1 => by
  obtain ⟨zs,q,rfl⟩:=snocN (l:=zs) (by rintro rfl;cases hn)
  have hn':zs.length = n:=by simpa using hn
  obtain ⟨i1,i2,i3,i4⟩:=runQ_spec n zs hn' (fun q hq => h1 q (by simp [hq]))
  have hq1:q.1.2 = 1:=h1 q (by simp)
  rw [runQ_snoc,List.map_append,List.map_cons,List.map_nil,runsN_snoc,← i1,List.map_append,List.map_cons,List.map_nil]
  by_cases h0:runQ zs = []
  ·rw [h0]
   refine ⟨?_,?_,by simp [stepQ],fun z hz => ?_⟩
   ·show [q.1] = [(q.1.1,1)]
    rw [← hq1]
   ·exact List.sublist_append_right _ _
   ·have hz:z = q:=by simpa [stepQ] using hz
    subst hz
    exact ⟨by omega,z,by simp,rfl⟩
  ·obtain ⟨out,p,e⟩:=snocN h0
   rw [e] at i2 i3 i4 ⊢
   have hp:=i4 p (by simp)
   by_cases hc:cmpS p.1.1 q.1.1 = 0
   ·rw [stepQ_eq _ _ _ hc,List.map_append,List.map_append,List.map_cons,List.map_nil,List.map_cons,List.map_nil,stepN_eq _ _ _ hc]
    refine ⟨rfl,?_,by simp at i3 ⊢;omega,fun z hz => ?_⟩
    ·have e2:(out ++ [p]).map SpT.bl = out.map SpT.bl ++ [SpT.bl ((p.1.1,p.1.2 + 1),p.2)]:=by rw [List.map_append];rfl
     rw [List.map_append,List.map_cons,List.map_nil,← e2]
     exact i2.trans (List.sublist_append_left _ _)
    ·rcases List.mem_append.1 hz with hz|hz
     ·obtain ⟨a,b,hb,hb2⟩:=i4 z (by simp [hz])
      exact ⟨by omega,b,by simp [hb],hb2⟩
     ·obtain rfl:=List.mem_singleton.1 hz
      obtain ⟨a,b,hb,hb2⟩:=hp
      exact ⟨by simp only;omega,b,by simp [hb],hb2⟩
   ·rw [stepQ_ne _ _ _ hc]
    refine ⟨?_,?_,by simp at i3 ⊢;omega,fun z hz => ?_⟩
    ·simp only [List.map_append,List.map_cons,List.map_nil]
     rw [stepN_ne _ _ _ hc]
     congr 1
     show [q.1] = [(q.1.1,1)]
     rw [← hq1]
    ·rw [List.map_append]
     exact List.Sublist.append i2 (List.Sublist.refl _)
    ·rcases List.mem_append.1 hz with hz|hz
     ·obtain ⟨a,b,hb,hb2⟩:=i4 z hz
      exact ⟨by omega,b,by simp [hb],hb2⟩
     ·obtain rfl:=List.mem_singleton.1 hz
      exact ⟨by omega,z,by simp,rfl⟩
noncomputable def TGa1:Tab Tryz.prog :=
 (Tab.none.add 87 (tab2 codLL codLL fun f g => if SmF f∧SmF g then some [.val (.int (cmpF f g))] else none) (kY fun f g rs h => by split at h;cases h;rename_i hs;exact a_compareForests f g (by have:=hs.1.2;omega) (by have:=hs.2.2;omega);cases h)).add
  121 (tab2 codLL codLL fun f g => if SmF f∧SmF g then some [.val (.int (cmpN f g))] else none) (kY fun f g rs h => by split at h;cases h;rename_i hs;exact a_compareTrunks f g hs.1 hs.2;cases h)
theorem a_gathered1 (z y:Spl × Int) (hz:SmS z.1) (hy:SmS y.1):AFn Tryz.prog 120 [eSp z,eSp y] (· = [.val (.int (cmpS z.1 y.1))]):=by
 obtain ⟨⟨f,g⟩,n⟩:=z
 obtain ⟨⟨f',g'⟩,n'⟩:=y
 have e1:=eq_true (And.intro hz.1 hy.1)
 have e2:=eq_true (And.intro hz.2 hy.2)
 simp only at e1 e2
 have hcs:cmpS (f,g) (f',g') = if cmpF f f' = 0 then cmpN g g' else cmpF f f':=rfl
 simp only
 rw [hcs]
 refine AFn.of_runs (qX 19) Tryz.func120 rfl rfl rfl gz ?_
 have hres:Tryz.f120.results.toList = [.tmp 4]:=rfl
 have hrts:Tryz.f120.resultTypes.toList = [3]:=rfl
 simp only [qK,qA,eL,eI,eLL,eB,Nat.zero_add,Nat.reduceAdd,eSp]
 intro M
 refine qQ.of ?_
 by_cases h0:cmpF f f' = 0
 ·have hb:(cmpF f f' != 0) = false:=by simp [h0]
  rw [if_pos h0]
  refine gw48 (kk 6) (Y3 e1 e2 hb) ?_
  exact gw8
 ·have hb:(cmpF f f' != 0) = true:=bne_iff_ne.2 h0
  rw [if_neg h0]
  refine gw48 (kk 6) (Y3 e1 e2 hb) ?_
  exact gw8
theorem aggSp (w:World):(isAgg 42).run Tryz.prog w = .ok true w:=by
 simp [isAgg,run_underlying Tryz.underlying42]
theorem tSplit:ST Tryz.prog 33 42 (.agg #[.slice none 0 0,.slice none 0 0,.int .i64 0]) 3 56:=ST.mk' (by kernel_rfl) (by kernel_rfl) rfl (by decide)
theorem sizeSp (w:World):(Go.sizeOf 42).run Tryz.prog w = .ok 3 w:=by
 obtain ⟨_,⟨i,hi,_,hs,_⟩,_,_⟩:=tSplit
 simp [Go.sizeOf,typeInfo,hi,hs]
theorem rd_eSpT {A:Nat→Prop} {W:World} {us:List Value} {x:SpT} (hA:∀ b,A b→b < W.heap.size) (h:rdCs A W us (eSpT x)):∃ u1 u2,us = [u1,u2,.int .i64 x.1.2]∧Rd (RS (RS RI)) W [u1] x.1.1.1∧Rd (RS (RS RI)) W [u2] x.1.1.2:=by
 have hl:=h.len
 match us,hl with
 | [u1,u2,u3],_ =>
  obtain ⟨v1,e1,h1⟩:=h.get 0 (by show 0 < 3;decide)
  obtain ⟨v2,e2,h2⟩:=h.get 1 (by show 1 < 3;decide)
  obtain ⟨v3,e3,h3⟩:=h.get 2 (by show 2 < 3;decide)
  obtain rfl:u1 = v1:=by simpa using e1
  obtain rfl:u2 = v2:=by simpa using e2
  obtain rfl:u3 = v3:=by simpa using e3
  have h1:rdV A W u1 (.tag x.2.1 (.sl 1 (x.1.1.1.map eL))):=h1
  have h2:rdV A W u2 (.tag x.2.2 (.sl 1 (x.1.1.2.map eL))):=h2
  have h3:rdV A W u3 (.int x.1.2):=h3
  have r1:=rdLL (xs:=x.1.1.1) h1.un
  have r2:=rdLL (xs:=x.1.1.2) h2.un
  refine ⟨u1,u2,?_,Rd.of r1,Rd.of r2⟩
  rw [(qO.1 h3).1]
theorem a_sortSp (zs:List SpT) (hok:∀ z ∈ zs,SmS z.1.1) (hn:zs.length ≤ 1000000000) :
  AEf Tryz.prog 122 false [] 3 (zs.map eSpT) [[.raw (.func (.func 120) #[] #[])]] (fun rs oc => rs = []∧∃ zs':List SpT,oc = some (zs'.map eSpT)∧zs'.Perm zs∧zs'.Pairwise (fun a b => cmpS a.1.1 b.1.1 ≤ 0)):=by
 refine a_SortG Tryz.sortSp (k:=3) eSpT (by decide) (fun _ => rfl) aggSp sizeSp yN (·.1.1) (fun z => SmS z.1.1) ((([],[]),0),([],[])) [.slice none 0 0,.slice none 0 0,.int .i64 0] (fun A w => ?_) (by decide) 120 (enters_of Tryz.func120 rfl rfl)
  (fun W A x y us vs hA hx hy hu hv => ?_) (enters_of Tryz.func122 rfl rfl) zs hok hn
 ·have hnil:rdV A w (.slice none 0 0) (.tag [] (.sl 1 [])):=xO.2 ⟨by simp,kA.2 ⟨none,[],[],Row.nil _ 1,ownR.nil (by decide),rfl⟩⟩
  exact rdCs.cons hnil (rdCs.cons hnil (rdCs.cons (qO.2 ⟨rfl,by show qB 0;unfold qB;omega⟩) rdCs.nil))
 ·obtain ⟨u1,u2,rfl,r1,r2⟩:=rd_eSpT hA hu
  obtain ⟨v1,v2,rfl,r3,r4⟩:=rd_eSpT hA hv
  exact c_gathered1 W _ _ _ _ _ _ _ _ _ _ r1 r2 r3 r4 (Nat.le_trans hx.1.2 (by decide)) (Nat.le_trans hy.1.2 (by decide))
end Go.Proofs.YtedgfkpfhonlpaaGreat
namespace Go.Proofs.YtedgfkpfhonlpaaGreat
open Go.RowKit
theorem sub_flatN {α:Type} {l1 l2:List (List α)} (h:l1.Sublist l2):l1.flatten.Sublist l2.flatten:=by
 induction h with
 | slnil => exact .slnil
 | cons a _ ih => rw [List.flatten_cons];exact ih.trans (List.sublist_append_right _ _)
 | cons_cons a _ ih => rw [List.flatten_cons,List.flatten_cons];exact List.Sublist.append (List.Sublist.refl _) ih
def eS0 (s:Spl):List D:=[.sl 1 (s.1.map eL),.sl 1 (s.2.map eL),.int 0]
noncomputable def TGa2:Tab Tryz.prog :=
 (Tab.none.add 102 (tab1 codLL fun f => if SmF f then some [.own 1 ((forest f).map eL) true] else none) (kF fun f rs h => by split at h;cases h;rename_i hs;exact a_forestOf f hs.1 (by have:=hs.2;omega);cases h)).add
  120 (tab2 codSp codSp fun z y => if SmS z.1∧SmS y.1 then some [.val (.int (cmpS z.1 y.1))] else none) (kY fun z y rs h => by split at h;cases h;rename_i hs;exact a_gathered1 z y hs.1 hs.2;cases h)
structure Ga1 (M:Nat→Prop) (L:List Spl) (i:Nat) (qs:List SpT):Prop where
 le:i ≤ L.length
 eq:qs.map (·.1) = (L.take i).map fun s => (nrmS s,1)
 nd:((qs.map SpT.bl).flatten).Nodup
 mi:∀ b ∈ (qs.map SpT.bl).flatten,M b
theorem Ga1.len {M:Nat→Prop} {L:List Spl} {i:Nat} {qs:List SpT} (h:Ga1 M L i qs):qs.length = i:=by
 have:=congrArg List.length h.eq
 rw [List.length_map,List.length_map,List.length_take] at this
 have:=h.le
 omega
theorem marks_eSpT:∀ (qs:List SpT),kO (qs.map eSpT) = (qs.map SpT.bl).flatten
 | [] => rfl
 | q :: qs => by
  have ih:=marks_eSpT qs
  unfold kO at ih ⊢
  rw [List.map_cons,List.flatMap_cons,ih,List.map_cons,List.flatten_cons]
  congr 1
  simp [eSpT,D.marks,SpT.bl]
theorem rowMarks_left {xs ys:List (List D)} {b:Nat} (h:b ∈ kO xs):b ∈ kO (xs ++ ys):=by
 unfold kO at h ⊢
 rw [List.flatMap_append];exact List.mem_append_left _ h
theorem a_gathered (L:List Spl) (hl:L.length ≤ 100000) (hL:∀ s ∈ L,SmS s):AOw Tryz.prog 60 [] 3 (L.map eS0) [] (· = [.own 3 ((gathS L).map eSp) true]):=by
 refine AOw.of_runs (qX 68) Tryz.func60 rfl rfl rfl gz ?_
 have hres:Tryz.f60.results.toList = [.tmp 2]:=rfl
 have hrts:Tryz.f60.resultTypes.toList = [33]:=rfl
 simp only [List.length_cons,List.length_nil,List.nil_append,List.cons_append,qK,qA,eL,eI,eLL,eB,Nat.zero_add,Nat.reduceAdd]
 intro M
 refine qQ.of ?_
 refine gw33 (kk 35) Y0 ?_
 refine qQ.loop (β:=Nat × List SpT) (γ:=List SpT) (fun x => ⟨[(0,.c (.own 0 L.length)),(10,.c (.own 0 L.length)),(11,.c (.val (.int L.length))),(12,.c (.val (.int x.1)))],[(0,.row 3 (x.2.map eSpT ++ (L.drop x.1).map eS0) false)]⟩) (fun x => Ga1 M L x.1 x.2) (fun x => L.length - x.1)
  (fun qs => ⟨[(0,.c (.own 0 L.length))],[(0,.row 3 (qs.map eSpT) false)]⟩) (fun qs => Ga1 M L L.length qs) (0,[]) ⟨Nat.zero_le _,rfl,List.nodup_nil,fun b hb => nomatch hb⟩ ?_ ?_ ?_
 ·exact gw49
 ·rintro ⟨i,qs⟩ hI
  have hil:=hI.le
  have hqn:=hI.len
  simp only at hil hqn ⊢
  have hw:=qI (n:=i) (by omega)
  have hrl:(qs.map eSpT ++ (L.drop i).map eS0).length = L.length:=by rw [List.length_append,List.length_map,List.length_map,List.length_drop];omega
  by_cases h:i < L.length
  ·have i1:((i:Int) < (L.length:Int)) = True:=eq_true (by omega)
   have i2:((0:Int) ≤ (i:Int)) = True:=eq_true (by omega)
   refine qQ.fresh rfl ?_
   intro M' hM' hold
   have hold:=hold 0 3 (qs.map eSpT ++ (L.drop i).map eS0) rfl
   obtain ⟨s,hs⟩:∃ s,s = L[i]:=⟨_,rfl⟩
   have hsm:=hL L[i] (List.getElem_mem _)
   have hdr:L.drop i = s :: L.drop (i + 1):=by rw [hs];exact List.drop_eq_getElem_cons h
   rw [← hs] at hsm
   have hg:(qs.map eSpT ++ (L.drop i).map eS0)[i]? = some [.sl 1 (s.1.map eL),.sl 1 (s.2.map eL),.int 0]:=by
    rw [List.getElem?_append_right (by rw [List.length_map];omega),List.length_map,hqn,Nat.sub_self,hdr];rfl
   have e1:=eq_true hsm.1
   have e2:=eq_true hsm.2
   refine gw37 (kk 35) (Y4 i1 i2 hg hrl) ?_
   ((with_reducible refine qQ.wFz (qX 68) TGa2 qE [] (tr:=?_) (s1:=?_) (rest:=?_) ?_ ?_ ?_);rotate_left 3;(focus ((with_reducible refine QW ?_);simp only [Zg,Zd,Zi,seval,drunF,kT,xS,valD,vJ,List.contains_cons,List.contains_nil,TGa2,TGa2,i1,i2,hg,hrl,e1,e2,Int.toNat_natCast];with_reducible rfl));focus ((with_reducible refine QK ?_);simp only [Zk];kernel_rfl))
   refine qV.markA2 (r:=25) (key1:=21) (key2:=24) (z:=[.val (.int 1)]) rfl rfl rfl (by decide) ?_
   intro F G hnd hFG
   refine qV.opsT (qX 68) (T:=Tab.none) (s':=?_) ?_ ?_
   rotate_left 1
   focus (simp only [Zg,Zi,seval,hg,hrl];with_reducible rfl)
   refine gw28 (kk 35) hw ?_
   have hset:(qs.map eSpT ++ (L.drop i).map eS0).set i [.tag F (.sl 1 ((forest s.1).map eL)),.tag G (.sl 1 ((forest s.2).map eL)),.int 1] = (qs ++ [((nrmS s,1),(F,G))]).map eSpT ++ (L.drop (i + 1)).map eS0:=by
    rw [List.set_append_right _ _ (by rw [List.length_map];omega),List.length_map,hqn,Nat.sub_self,hdr,List.map_cons,List.set_cons_zero,List.map_append,List.append_assoc]
    rfl
   refine qW.on (i + 1,qs ++ [((nrmS s,1),(F,G))]) ⟨⟨h,?_,?_,?_⟩,by show L.length - (i + 1) < L.length - i;omega⟩ ?_
   ·show List.map (fun q:SpT => q.1) (qs ++ [((nrmS s,1),(F,G))]) = (L.take (i + 1)).map fun s => (nrmS s,1)
    have:=hI.eq
    simp only at this
    rw [List.map_append,this,List.take_succ_eq_append_getElem h,List.map_append,← hs];rfl
   ·show (((qs ++ [((nrmS s,1),(F,G))]).map SpT.bl).flatten).Nodup
    rw [List.map_append,List.flatten_append]
    refine List.nodup_append.2 ⟨hI.nd,by simpa [SpT.bl] using hnd,fun b hb c hc e => ?_⟩
    subst e
    refine hold b (rowMarks_left ?_) (hFG b (by simpa [SpT.bl] using hc))
    rw [marks_eSpT];exact hb
   ·intro b hb
    have hb:b ∈ ((qs ++ [((nrmS s,1),(F,G))]).map SpT.bl).flatten:=hb
    rw [List.map_append,List.flatten_append] at hb
    rcases List.mem_append.1 hb with hb|hb
    ·exact hI.mi b hb
    ·exact hM' b (hFG b (by simpa [SpT.bl] using hb))
   ·rw [← hset]
    exact gw6
  ·have i1:((i:Int) < (L.length:Int)) = False:=eq_false (by omega)
   obtain rfl:i = L.length:=by omega
   have hd0:L.drop L.length = []:=List.drop_length
   refine gw28 (kk 35) i1 ?_
   refine qW.out qs hI ?_
   rw [hd0,List.map_nil,List.append_nil]
   exact gw6
 ·intro qs hJ
  have hqn:=hJ.len
  have hq1:∀ q ∈ qs,q.1.2 = 1∧SmS q.1.1:=fun q hq => by
   have hm:q.1 ∈ qs.map (·.1):=List.mem_map.2 ⟨q,hq,rfl⟩
   rw [hJ.eq,List.take_length,List.mem_map] at hm
   obtain ⟨s,hs,e⟩:=hm
   rw [← e]
   have:=hL s hs
   refine ⟨rfl,⟨?_,?_⟩,?_,?_⟩
   ·show (sortC cmpT s.1).length ≤ 19
    rw [kV];exact this.1.1
   ·show qJ (sortC cmpT s.1) ≤ 100
    rw [xR (jE _)];exact this.1.2
   ·show (sortC cmpT s.2).length ≤ 19
    rw [kV];exact this.2.1
   ·show qJ (sortC cmpT s.2) ≤ 100
    rw [xR (jE _)];exact this.2.2
  have hso:=a_sortSp qs (fun q hq => (hq1 q hq).2) (by omega)
  refine gw28 (kk 35) Y0 ?_
  refine qQ.regCut (qX 68) Tab.none 2 (s1:=?_) ?_ ?_
  rotate_left 1
  focus (refine Work.mk ?_;simp only [Zg,Zi,seval];with_reducible rfl)
  simp only [List.toList_toArray,List.drop_succ_cons,List.drop_zero]
  refine qV.callEf (qX 68) rfl rfl (by decide) rfl rfl (x:=.tmp 28) (xpost:=[.tmp 29]) rfl rfl (post:=[[.raw (.func (.func 120) #[] #[])]]) ?_ ?_ rfl rfl ?_ hso (R:=fun ys => ∃ zs:List SpT,ys = zs.map eSpT∧zs.Perm qs∧zs.Pairwise (fun a b => cmpS a.1.1 b.1.1 ≤ 0)) ?_ ?_
  ·simp only [Zg,Zi,seval]
  ·rfl
  ·intro q u hq hu
   rw [look,if_neg (fun e => hq e.symm)] at hu
   cases hu
  ·rintro rs oc ⟨rfl,zs,rfl,h1,h2⟩
   exact ⟨rfl,_,rfl,zs,rfl,h1,h2⟩
  rintro _ ⟨zs,rfl,hperm,hsort⟩
  have hzl:zs.length = L.length:=by rw [hperm.length_eq];exact hqn
  have hzz:∀ z ∈ zs,z.1.2 = 1∧SmS z.1.1:=fun z hz => hq1 z (hperm.mem_iff.1 hz)
  refine qV.opsT (qX 68) (T:=Tab.none) (s':=?_) ?_ ?_
  rotate_left 1
  focus (simp only [Zg,Zi,seval];with_reducible rfl)
  refine gw28 (kk 35) Y0 ?_
  obtain ⟨R,hR⟩:∃ R,R = fun i => runQ (zs.take i):=⟨_,rfl⟩
  have hRi:∀ i,i ≤ zs.length→(R i).length ≤ 100000∧∀ q ∈ R i,(1 ≤ q.1.2∧q.1.2 ≤ 100000)∧SmS q.1.1:=fun i hi => by
   rw [hR]
   obtain ⟨_,_,h3,h4⟩:=runQ_spec _ (zs.take i) rfl (fun q hq => (hzz q (List.mem_of_mem_take hq)).1)
   rw [List.length_take] at h3 h4
   refine ⟨by show (runQ (zs.take i)).length ≤ 100000;omega,fun q hq => ?_⟩
   obtain ⟨h5,p,hp,h6⟩:=h4 q hq
   exact ⟨by omega,h6 ▸ (hzz p (List.mem_of_mem_take hp)).2⟩
  refine qQ.loop (β:=Nat) (γ:=Unit) (fun i => ⟨[(5,.c (.val (.raw (.func (.func 120) #[] #[])))),(6,.c (.own 6 (R i).length)),(32,.c (.own 0 L.length)),(33,.c (.val (.int L.length))),(34,.c (.val (.int i)))],[(0,.row 3 (zs.map eSpT) false),(6,.row 3 ((R i).map eSpT) false)]⟩) (fun i => i ≤ L.length) (fun i => L.length - i)
   (fun _ => ⟨[(6,.c (.own 6 (R L.length).length))],[(6,.row 3 ((R L.length).map eSpT) false)]⟩) (fun _ => True) 0 (Nat.zero_le _) ?_ ?_ ?_
  ·have e0:R 0 = []:=by rw [hR];rfl
   rw [e0]
   exact gw50
  ·intro i hi
   have hi:i ≤ L.length:=hi
   have hw:=qI (n:=i) (by omega)
   obtain ⟨hb1,hb2⟩:=hRi i (by omega)
   have hzml:(zs.map eSpT).length = L.length:=by rw [List.length_map,hzl]
   by_cases h:i < L.length
   ·have hz':i < zs.length:=by omega
    have i1:((i:Int) < (L.length:Int)) = True:=eq_true (by omega)
    have i2:((0:Int) ≤ (i:Int)) = True:=eq_true (by omega)
    obtain ⟨p,hp⟩:∃ p,p = zs[i]:=⟨_,rfl⟩
    have hpz:=hzz zs[i] (List.getElem_mem _)
    have hst:R (i + 1) = stepQ (R i) p:=by
     rw [hR]
     show runQ (zs.take (i + 1)) = stepQ (runQ (zs.take i)) p
     rw [List.take_succ_eq_append_getElem hz',← hp,runQ_snoc]
    have hg:(zs.map eSpT)[i]? = some (eSpT p):=by rw [qP hz',hp]
    rw [← hp] at hpz
    obtain ⟨⟨⟨pf,pg⟩,pn⟩,⟨pF,pG⟩⟩:=p
    simp only [eSpT] at hg
    simp only at hpz
    have hpz2:=hpz.2
    have q1:=jS (n:=(R i).length + 1) (by omega)
    have q2:=jO (n:=(R i).length + 1) (c:=56) (by omega) (by omega)
    by_cases h0:R i = []
    ·rw [h0,stepQ_nil] at hst
     have j1:(((0:Nat):Int) > 0) = False:=eq_false (by omega)
     rw [h0] at q1 q2 ⊢
     simp only [List.length_nil] at q1 q2
     refine gw51 (kk 35) (Y8 i1 i2 hg hzml hw j1 q1 q2) ?_
     refine qW.on (i + 1) ⟨h,by omega⟩ ?_
     rw [hst]
     exact gw52
    ·obtain ⟨qo,q,eq⟩:=snocN h0
     have hlq:(R i).length = qo.length + 1:=by rw [eq];simp
     obtain ⟨hz1,hz3⟩:=hb2 q (by rw [eq];simp)
     obtain ⟨⟨⟨qf,qg⟩,qn⟩,⟨qF,qG⟩⟩:=q
     simp only at hz1 hz3
     have j1:((((qo.length + 1:Nat)):Int) > 0) = True:=eq_true (by omega)
     have hw1:w64 (((qo.length + 1:Nat):Int) - 1) = ((qo.length:Nat):Int):=by rw [qR (by omega)];omega
     have i3:((0:Int) ≤ ((qo.length:Nat):Int)) = True:=eq_true (by omega)
     have i4:(((qo.length:Nat):Int) < ((qo.length + 1:Nat):Int)) = True:=eq_true (by omega)
     have hgz:((R i).map eSpT)[qo.length]? = some [.tag qF (.sl 1 (qf.map eL)),.tag qG (.sl 1 (qg.map eL)),.int qn]:=by
      rw [eq,List.map_append,List.getElem?_append_right (by simp)];simp [eSpT]
     have hxl:((R i).map eSpT).length = qo.length + 1:=by rw [List.length_map,hlq]
     have hk2:=eq_true (And.intro hz3 hpz2)
     rw [hlq] at hb1 q1 q2 ⊢
     by_cases he:cmpS (qf,qg) (pf,pg) = 0
     ·have hd:(cmpS (qf,qg) (pf,pg) == 0) = true:=beq_iff_eq.2 he
      have hwz:=qR (n:=qn + 1) (by omega)
      refine gw53 (kk 35) (Y12 i1 i2 i3 i4 hg hzml hgz hxl hw hw1 hd (Y3 hwz j1 hk2)) ?_
      have hR2:R (i + 1) = qo ++ [(((qf,qg),qn + 1),(qF,qG))]:=by rw [hst,eq];exact stepQ_eq qo _ _ he
      have hse:((R i).map eSpT).set qo.length [.tag qF (.sl 1 (qf.map eL)),.tag qG (.sl 1 (qg.map eL)),.int (qn + 1)] = (R (i + 1)).map eSpT:=by
       rw [hR2,eq,List.map_append,List.set_append_right _ _ (by simp)];simp [eSpT]
      refine qW.on (i + 1) ⟨h,by omega⟩ ?_
      have hl2:(R (i + 1)).length = qo.length + 1:=by rw [hR2];simp
      rw [hl2,← hse]
      exact gw6
     ·have hd:(cmpS (qf,qg) (pf,pg) == 0) = false:=beq_eq_false_iff_ne.2 he
      refine gw53 (kk 35) (Y12 i1 i2 i3 i4 hg hzml hgz hxl hw hw1 hd (Y4 j1 hk2 q1 q2)) ?_
      have hR2:R (i + 1) = R i ++ [(((pf,pg),pn),(pF,pG))]:=by rw [hst,eq];exact stepQ_ne qo _ _ he
      refine qW.on (i + 1) ⟨h,by omega⟩ ?_
      rw [hR2,List.length_append,hlq]
      exact gw54
   ·have i1:((i:Int) < (L.length:Int)) = False:=eq_false (by omega)
    obtain rfl:i = L.length:=by omega
    refine gw28 (kk 35) i1 ?_
    refine qW.out () trivial ?_
    exact gw6
  ·rintro _ _
   have hRL:R L.length = runQ zs:=by rw [hR];show runQ (zs.take L.length) = _;rw [← hzl,List.take_length]
   obtain ⟨k1,k2,_,_⟩:=runQ_spec _ zs rfl (fun q hq => (hzz q hq).1)
   rw [hRL]
   refine gw28 (kk 35) Y0 ?_
   refine Ends.un (by simp) hres hrts (r:=?_) (r':=.own 3 ((gathS L).map eSp) true) (l:=[]) (ks:=?_) ?_ ?_ (by simp) ?_ rfl
   rotate_left 2
   focus (simp only [jT,ares,Zg,Zi,seval];with_reducible rfl)
   focus simp
   have hx:gathS L = (runQ zs).map (·.1):=by
    rw [k1]
    refine IsN.ext yN (jB L) (runsN_sorted yN (M:=L.map nrmS) ?_ ?_) (List.Perm.refl _)
    ·refine (hperm.map (·.1.1)).trans ?_
     have:=congrArg (List.map (·.1)) hJ.eq
     rw [List.map_map,List.map_map,List.take_length] at this
     rw [show (qs.map fun x => x.1.1) = qs.map ((fun x => x.1) ∘ fun x => x.1) from rfl,this]
     exact List.Perm.refl _
    ·exact List.pairwise_map.2 hsort
   rw [hx]
   have hp2:=(hperm.map SpT.bl).flatten
   refine ⟨((runQ zs).map SpT.bl).flatten,?_,fun b hb => hJ.mi b ?_,.inl ⟨3,_,_,rfl,rfl,tag_mkS _⟩⟩
   ·exact (hp2.nodup_iff.2 hJ.nd).sublist (sub_flatN k2)
   ·exact hp2.mem_iff.1 ((sub_flatN k2).subset hb)
end Go.Proofs.YtedgfkpfhonlpaaGreat
namespace Go.Proofs.YtedgfkpfhonlpaaGreat
open Go.RowKit
theorem c_slicesGrowL (n:Nat) (w:World) (hn:n ≤ 1000000000):Calls Tryz.prog 183 #[.slice none 0 0,.int .i64 n] w (RetO (RS (RS RI)) w []):=by
 by_cases h0:n = 0
 ·subst h0
  go_enter Tryz.func183,Tryz.ntmps183
  go_wp2_with fail
  go_ret
  exact ⟨_,rfl,Own.nil _ _,Below.refl _ _⟩
 ·obtain ⟨ht,⟨i,hi,hz,hsz,hby⟩,_,_⟩:=tI64S
  have hr:=Lib.run_append_nil_zeros (P:=Tryz.prog) w 36 3 36 24 i (.slice none 0 0) .i64 .i64 ht Tryz.underlying3 hi hz n (by omega) (by omega) (by omega) (by rw [hby];omega)
  have hge:=grownCap_ge w n 0 24
  have hcm:grownCap w n 0 24 ≤ maxLen:=grownCap_le_maxLen w n 0 24 (by unfold maxLen;omega)
  obtain ⟨cp,hcp⟩:∃ cp,cp = grownCap w n 0 24:=⟨_,rfl⟩
  rw [← hcp] at hr hge hcm
  obtain ⟨cur,hcur⟩:∃ cur,cur = Builtin.zeroCells (Value.slice none 0 0).cells n ++ Builtin.zeroCells (Value.slice none 0 0).cells (cp - n):=⟨_,rfl⟩
  have hcs:cur.size = cp * 1:=by
   rw [hcur,Array.size_append,size_zeroCells,size_zeroCells]
   show n * 1 + (cp - n) * 1 = cp * 1
   omega
  rw [← hcur] at hr
  have hrow:Row (w.drew.alloc (.cells cur 24)) (.slice (some ⟨w.heap.size,0,none⟩) 0 cp) 1 0 [] (some w.heap.size) :=
   ⟨rfl,.inr ⟨w.heap.size,cp,cur,24,rfl,rfl,Go.heap_alloc_new w.drew _,Nat.zero_le _,hcm,hcs,by simp⟩⟩
  have hown:Own (RS (RS RI)) w.heap.size (w.drew.alloc (.cells cur 24)).heap.size (w.drew.alloc (.cells cur 24)) [.slice (some ⟨w.heap.size,0,none⟩) 0 cp] [] :=
   Own.mk' (og:=some w.heap.size) (F:=[]) (ds:=[]) hrow ⟨rfl,rfl⟩ (by simp) (fun b hb => by simp at hb;subst hb;simp)
  have hbel:Below w.heap.size w (w.drew.alloc (.cells cur 24)):=⟨rfl,rfl,rfl,by simp,fun k hk => Below.heap_alloc w.drew _ k hk⟩
  have HR:=Lib.hid hr
  have HO:=Lib.hid hown
  have hp:(0:Int) < (n:Int):=by omega
  have hp2:¬ ((n:Int) < 0):=by omega
  unfold maxLen at hcm
  clear hr hown hrow hcp hcur hi hz hsz hby ht hcs
  go_enter Tryz.func183,Tryz.ntmps183
  go_wp2_with (at_builtin;refine yP (o:=⟨some 22,_,_,_,_,_⟩) ?_)
  refine jY.go ?_
  refine Lib.wpList_append_run w rfl _ _ _ _ rfl _ _ rfl rfl _ _ HR.out ?_
  go_wp2_with fail
  go_ret
  exact ⟨_,rfl,HO.out,hbel⟩
theorem a_slicesGrowL (n:Nat) (hn:n ≤ 1000000000):AFn Tryz.prog 183 [[.raw (.slice none 0 0)],eI n] (· = [.own 1 [] true]) :=
 AFn.of_o (xs:=[]) (encS encI) (enters_of Tryz.func183 rfl rfl) (fun w A vs ⟨v1,_,e1,h1,v2,_,e2,h2,e3⟩ => by
  subst e3;subst e2;subst e1
  rw [arg_int h2,(jL.1 h1).1]
  exact c_slicesGrowL n w hn)
def eLLL' (x:List (List Int)):List D:=[.sl 1 (x.map eL)]
def cntL (bs:List (List (List Int))):Nat:=(bs.map List.length).sum
theorem jH0 (bs:List (List (List Int))) (k:Nat) (h:k < bs.length):cntL (bs.take (k + 1)) = cntL (bs.take k) + bs[k].length:=by
 unfold cntL
 rw [List.take_succ_eq_append_getElem h,List.map_append,List.sum_append];simp
theorem cntL_flat (bs:List (List (List Int))):bs.flatten.length = cntL bs:=by simp [cntL,List.length_flatten]
theorem cntL_take (bs:List (List (List Int))) (k:Nat):cntL (bs.take k) ≤ cntL bs:=by
 rw [← cntL_flat,← cntL_flat]
 conv => rhs;rw [← List.take_append_drop k bs]
 rw [List.flatten_append,List.length_append]
 omega
theorem a_slicesConcatL (bs:List (List (List Int))) (hsz:cntL bs ≤ 1000000) (hl:bs.length ≤ 1000000):AFn Tryz.prog 123 [[.sl 1 (bs.map eLLL')]] (· = [.own 1 (bs.flatten.map eL) false]):=by
 refine AFn.of_runs (qX 36) Tryz.func123 rfl rfl rfl gz ?_
 have hres:Tryz.f123.results.toList = [.tmp 2]:=rfl
 have hrts:Tryz.f123.resultTypes.toList = [36]:=rfl
 simp only [qK,qA,eL,eI,eLL,eB,Nat.zero_add,Nat.reduceAdd]
 intro M
 refine qQ.of ?_
 refine gw5 (kk 28) Y0 ?_
 refine qQ.loop (β:=Nat) (γ:=Unit) (fun i => ⟨[(0,.c (.val (.sl 1 (bs.map eLLL')))),(3,.c (.val (.int (cntL (bs.take i):Nat)))),(9,.c (.val (.sl 1 (bs.map eLLL')))),(10,.c (.val (.int bs.length))),(11,.c (.val (.int i)))],[]⟩) (fun i => i ≤ bs.length) (fun i => bs.length - i)
  (fun _ => ⟨[(0,.c (.val (.sl 1 (bs.map eLLL')))),(3,.c (.val (.int (cntL bs:Nat))))],[]⟩) (fun _ => True) 0 (Nat.zero_le _) ?_ ?_ ?_
 ·exact gw55 (show cntL [] = 0 from rfl)
 ·intro i hi
  have hi:i ≤ bs.length:=hi
  have hw:=qI (n:=i) (by omega)
  by_cases h:i < bs.length
  ·have i1:((i:Int) < (bs.length:Int)) = True:=eq_true (by omega)
   have i2:((0:Int) ≤ (i:Int)) = True:=eq_true (by omega)
   obtain ⟨f,hf⟩:∃ f,f = bs[i]:=⟨_,rfl⟩
   have hg:(bs.map eLLL')[i]? = some [.sl 1 (f.map eL)]:=by rw [qP h,hf];rfl
   have hst:=jH0 bs i h
   have hle:=cntL_take bs (i + 1)
   rw [← hf] at hst
   have hws:w64 ((cntL (bs.take i):Int) + (f.length:Int)) = ((cntL (bs.take (i + 1)):Nat):Int):=by rw [qR (by omega)];omega
   have j1:(((cntL (bs.take (i + 1)):Nat):Int) < 0) = False:=eq_false (by omega)
   refine gw56 (kk 28) (Y6 i1 i2 hg hw hws j1) ?_
   refine qW.on (i + 1) ⟨h,by omega⟩ ?_
   exact gw6
  ·have i1:((i:Int) < (bs.length:Int)) = False:=eq_false (by omega)
   obtain rfl:i = bs.length:=by omega
   rw [List.take_length]
   refine gw7 (kk 28) i1 ?_
   refine qW.out () trivial ?_
   exact gw6
 ·rintro _ _
  have hgr:=a_slicesGrowL (cntL bs) (by omega)
  refine gw5 (kk 28) Y0 ?_
  refine qQ.regCut (qX 36) Tab.none 1 (s1:=?_) ?_ ?_
  rotate_left 1
  focus (refine Work.mk ?_;simp only [Zg,Zi,seval];with_reducible rfl)
  simp only [List.toList_toArray,List.drop_succ_cons,List.drop_zero]
  refine qV.callNilP (qX 36) (d:=24) (g:=183) (xs:=[]) (tx:=[]) (pre:=[]) (ys:=[.tmp 23]) (ty:=[3]) (post:=[eI (cntL bs:Nat)]) rfl (by decide) rfl rfl rfl rfl rfl rfl rfl rfl hgr rfl ?_
  refine qV.opsT (qX 36) (T:=Tab.none) (s':=?_) ?_ ?_
  rotate_left 1
  focus (simp only [Zg,Zi,seval];with_reducible rfl)
  refine gw5 (kk 28) Y0 ?_
  refine qQ.loop (β:=Nat) (γ:=Unit) (fun i => ⟨[(6,.c (.own 6 (bs.take i).flatten.length)),(25,.c (.val (.sl 1 (bs.map eLLL')))),(26,.c (.val (.int bs.length))),(27,.c (.val (.int i)))],[(6,.row 1 ((bs.take i).flatten.map eL) false)]⟩) (fun i => i ≤ bs.length) (fun i => bs.length - i)
   (fun _ => ⟨[(6,.c (.own 6 bs.flatten.length))],[(6,.row 1 (bs.flatten.map eL) false)]⟩) (fun _ => True) 0 (Nat.zero_le _) ?_ ?_ ?_
  ·exact gw57
  ·intro i hi
   have hi:i ≤ bs.length:=hi
   have hw:=qI (n:=i) (by omega)
   by_cases h:i < bs.length
   ·have i1:((i:Int) < (bs.length:Int)) = True:=eq_true (by omega)
    have i2:((0:Int) ≤ (i:Int)) = True:=eq_true (by omega)
    obtain ⟨f,hf⟩:∃ f,f = bs[i]:=⟨_,rfl⟩
    have hg:(bs.map eLLL')[i]? = some [.sl 1 (f.map eL)]:=by rw [qP h,hf];rfl
    have hst:=jH0 bs i h
    have hle:=cntL_take bs (i + 1)
    rw [← hf] at hst
    have hfl:(bs.take (i + 1)).flatten = (bs.take i).flatten ++ f:=by rw [List.take_succ_eq_append_getElem h,List.flatten_append,hf];simp
    have hcl:=cntL_flat (bs.take i)
    have q1:=jS (n:=(bs.take i).flatten.length + f.length) (by omega)
    have q2:=jO (n:=(bs.take i).flatten.length + f.length) (c:=24) (by omega) (by omega)
    refine gw56 (kk 28) (Y6 i1 i2 hg hw q1 q2) ?_
    refine qW.on (i + 1) ⟨h,by omega⟩ ?_
    rw [hfl]
    exact gw6
   ·have i1:((i:Int) < (bs.length:Int)) = False:=eq_false (by omega)
    obtain rfl:i = bs.length:=by omega
    rw [List.take_length]
    refine gw7 (kk 28) i1 ?_
    refine qW.out () trivial ?_
    exact gw6
  ·rintro _ _
   refine gw7 (kk 28) Y0 ?_
   exact gw8
end Go.Proofs.YtedgfkpfhonlpaaGreat
namespace Go.Proofs.YtedgfkpfhonlpaaGreat
open Go.RowKit
def codLLL:Cod (List (List (List Int))):=codS 1 codLL
theorem codLLL_d (f g:List (List Int)):codLLL.d [.sl 1 [[.sl 1 (f.map eL)],[.sl 1 (g.map eL)]]] = some [f,g]:=codLLL.de [f,g]
def cat2:List (List (List Int))→Option (List Res)
 | [f,g] => if SmF f∧SmF g then some [.val (.sl 1 ((f ++ g).map eL))] else none
 | _ => none
theorem cat2_eq (f g:List (List Int)):cat2 [f,g] = if SmF f∧SmF g then some [.val (.sl 1 ((f ++ g).map eL))] else none:=rfl
noncomputable def TCat:Tab Tryz.prog :=
 Tab.none.add 123 (tab1 codLLL cat2) (kF fun bs rs h => by
  unfold cat2 at h
  split at h
  ·rename_i f g
   split at h
   ·rename_i hs
    cases h
    have hc:=AFn.val1 (a_slicesConcatL [f,g] (by simp [cntL];have:=hs.1.1;have:=hs.2.1;omega) (by simp))
    simp only [List.flatten_cons,List.flatten_nil,List.append_nil] at hc
    exact hc
   ·cases h
  ·cases h)
theorem a_branchesOf (t:List Int) (h:qY t) (hl:t.length ≤ 1000):AFn Tryz.prog 103 [eL t] (· = [.own 1 ((brs t).map eL) true]) :=
 afn_L_oo (enters_of Tryz.func103 rfl rfl) (fun u w h' => jY0 u t w h' h (by omega))
theorem foldS_snoc (A:List Spl) (Ls:List (List Spl)) (L:List Spl):foldS A (Ls ++ [L]) = (foldS A Ls).flatMap fun s => L.map (catS s):=by unfold foldS;rw [List.foldl_append];rfl
theorem flatS_len (A L:List Spl):(A.flatMap fun s => L.map (catS s)).length = A.length * L.length:=by
 induction A with
 | nil => simp
 | cons a A ih => rw [List.flatMap_cons,List.length_append,ih,List.length_map,List.length_cons,Nat.succ_mul,Nat.add_comm]
theorem jQ0:∀ (n:Nat),n ≤ 8→∀ t:List Int,qY t→t.length ≤ n→AFn Tryz.prog 117 [eL t] (· = [.own 3 ((split t).map eS0) false])
 | 0,_,t,h,hn => by have:=h.pos;omega
 | n + 1,hn8,t,h,hn => by
  have hsb:=xB h
  have hlev:=jX h
  have hbr:=AFn.valT (a_branchesOf t h (by omega))
  have hbl:(brs t).length ≤ 8:=by have:=brs_few h;omega
  have hca:=AFn.valT (yE0 t h (by omega))
  simp only [eL,eLL] at hbr hca
  have hAg:∀ k,(∀ s ∈ prodS (((brs t).take k).map split),yU (qJ ((brs t).take k)) s)∧(prodS (((brs t).take k).map split)).length ≤ 256∧qJ ((brs t).take k) ≤ 7:=fun k => by
   have h1:=qE0 (brs t) k
   exact ⟨kM (vG hlev),vU (vG hlev) (by omega),by omega⟩
  rw [xW h]
  refine AFn.of_runs (qX 80) Tryz.func117 rfl rfl rfl gz ?_
  have hres:Tryz.f117.results.toList = [.tmp 2]:=rfl
  have hrts:Tryz.f117.resultTypes.toList = [33]:=rfl
  simp only [qK,qA,eL,eI,eLL,eB,Nat.zero_add,Nat.reduceAdd]
  intro M
  refine qQ.of ?_
  refine gw58 (kk 59) ?_
  refine qQ.loop (β:=Nat) (γ:=Unit) (fun k => ⟨[(0,.c (.val (.sl 1 (t.map eI)))),(3,.c (.own 3 (prodS (((brs t).take k).map split)).length)),(16,.c (.val (.sl 1 ((brs t).map eL)))),(17,.c (.val (.int (brs t).length))),(18,.c (.val (.int k)))],[(3,.row 3 ((prodS (((brs t).take k).map split)).map eS0) false)]⟩) (fun k => k ≤ (brs t).length) (fun k => (brs t).length - k)
   (fun _ => ⟨[(0,.c (.val (.sl 1 (t.map eI)))),(3,.c (.own 3 (prodS ((brs t).map split)).length))],[(3,.row 3 ((prodS ((brs t).map split)).map eS0) false)]⟩) (fun _ => True) 0 (Nat.zero_le _) ?_ ?_ ?_
  ·exact gw59 (show prodS [] = [([],[])] from rfl)
  ·intro k hk
   have hk:k ≤ (brs t).length:=hk
   have hwk:=qI (n:=k) (by omega)
   obtain ⟨g1,g2,g3⟩:=hAg k
   by_cases hkb:k < (brs t).length
   ·have i1:((k:Int) < ((brs t).length:Int)) = True:=eq_true (by omega)
    have i2:((0:Int) ≤ (k:Int)) = True:=eq_true (by omega)
    obtain ⟨b,hb⟩:∃ b,b = (brs t)[k]:=⟨_,rfl⟩
    have hbm:b ∈ brs t:=by rw [hb];exact List.getElem_mem _
    have hg:((brs t).map eL)[k]? = some [.sl 1 (b.map eI)]:=by rw [qP hkb,hb];rfl
    have hle:((brs t).map eL).length = (brs t).length:=List.length_map _
    have hblen:=yA h b hbm
    have hih:=AFn.val1 (jQ0 n (by omega) b (hlev b hbm) (by omega))
    have hgB:=kE _ (Nat.le_refl _) (hlev b hbm)
    have hlB:(split b).length ≤ 256:=by
     have h1:=vT _ (Nat.le_refl _) (hlev b hbm)
     have h2:2 ^ b.length ≤ 2 ^ 8:=Nat.pow_le_pow_right (by decide) (by omega)
     omega
    have htk:prodS (((brs t).take (k + 1)).map split) = (prodS (((brs t).take k).map split)).flatMap fun s => (split b).map (catS s):=by
     rw [hb,List.take_succ_eq_append_getElem hkb,List.map_append];exact foldS_snoc _ _ _
    have hn2:(prodS (((brs t).take (k + 1)).map split)).length ≤ 256:=(hAg (k + 1)).2.1
    obtain ⟨A,hA⟩:∃ A,A = prodS (((brs t).take k).map split):=⟨_,rfl⟩
    obtain ⟨B,hB⟩:∃ B,B = split b:=⟨_,rfl⟩
    rw [← hA] at g1 g2 htk ⊢
    rw [← hB] at hih hgB hlB htk
    rw [htk] at hn2
    simp only [eL] at hih
    have hsA:∀ s ∈ A,SmS s:=fun s hs => ((g1 s hs).ha (by omega)).sm
    have hsB:∀ s ∈ B,SmS s:=fun s hs => ((hgB s hs).ha (by omega)).sm
    have hAl:(A.map eS0).length = A.length:=List.length_map _
    refine gw60 (kk 59) (Y4 i1 i2 hg hle) ?_
    refine qQ.loop (β:=Nat) (γ:=Unit) (fun i => ⟨[(0,.c (.val (.sl 1 (t.map eI)))),(3,.c (.own 3 A.length)),(5,.c (.val (.sl 1 (b.map eI)))),(6,.c (.own 6 ((A.take i).flatMap fun s => B.map (catS s)).length)),(16,.c (.val (.sl 1 ((brs t).map eL)))),(17,.c (.val (.int (brs t).length))),(18,.c (.val (.int k))),(23,.c (.own 3 A.length)),(24,.c (.val (.int A.length))),(25,.c (.val (.int i)))],
      [(3,.row 3 (A.map eS0) false),(6,.row 3 (((A.take i).flatMap fun s => B.map (catS s)).map eS0) false)]⟩) (fun i => i ≤ A.length) (fun i => A.length - i)
     (fun _ => ⟨[(0,.c (.val (.sl 1 (t.map eI)))),(6,.c (.own 6 (A.flatMap fun s => B.map (catS s)).length)),(16,.c (.val (.sl 1 ((brs t).map eL)))),(17,.c (.val (.int (brs t).length))),(18,.c (.val (.int k)))],[(6,.row 3 ((A.flatMap fun s => B.map (catS s)).map eS0) false)]⟩) (fun _ => True) 0 (Nat.zero_le _) ?_ ?_ ?_
    ·exact gw61
    ·intro i hi
     have hi:i ≤ A.length:=hi
     have hwi:=qI (n:=i) (by omega)
     by_cases hiA:i < A.length
     ·have j1:((i:Int) < (A.length:Int)) = True:=eq_true (by omega)
      have j2:((0:Int) ≤ (i:Int)) = True:=eq_true (by omega)
      obtain ⟨s,hs⟩:∃ s,s = A[i]:=⟨_,rfl⟩
      have hsm:=hsA A[i] (List.getElem_mem _)
      have hgs:(A.map eS0)[i]? = some [.sl 1 (s.1.map eL),.sl 1 (s.2.map eL),.int 0]:=by rw [qP hiA,hs];rfl
      have htkA:(A.take (i + 1)).flatMap (fun s => B.map (catS s)) = ((A.take i).flatMap fun s => B.map (catS s)) ++ B.map (catS s):=by
       rw [hs,List.take_succ_eq_append_getElem hiA,List.flatMap_append];simp
      have hXl:((A.take i).flatMap fun s => B.map (catS s)).length + B.length ≤ 256:=by
       rw [flatS_len] at hn2 ⊢
       rw [List.length_take,Nat.min_eq_left hi]
       have:(i + 1) * B.length ≤ A.length * B.length:=Nat.mul_le_mul_right _ hiA
       rw [Nat.succ_mul] at this;omega
      rw [← hs] at hsm
      obtain ⟨X,hX⟩:∃ X,X = (A.take i).flatMap fun s => B.map (catS s):=⟨_,rfl⟩
      rw [← hX] at htkA hXl ⊢
      have hBl:(B.map eS0).length = B.length:=List.length_map _
      refine gw62 (kk 59) (Y5 j1 j2 hgs hAl hBl) ?_
      refine qQ.loop (β:=Nat) (γ:=Unit) (fun j => ⟨[(0,.c (.val (.sl 1 (t.map eI)))),(3,.c (.own 3 A.length)),(5,.c (.val (.sl 1 (b.map eI)))),(6,.c (.own 6 (X ++ (B.take j).map (catS s)).length)),(8,.optr 8 0 0),(16,.c (.val (.sl 1 ((brs t).map eL)))),(17,.c (.val (.int (brs t).length))),(18,.c (.val (.int k))),(23,.c (.own 3 A.length)),(24,.c (.val (.int A.length))),(25,.c (.val (.int i))),(30,.c (.val (.sl 3 (B.map eS0)))),(31,.c (.val (.int B.length))),(32,.c (.val (.int j)))],
        [(3,.row 3 (A.map eS0) false),(6,.row 3 ((X ++ (B.take j).map (catS s)).map eS0) false),(8,.row 3 [[.sl 1 (s.1.map eL),.sl 1 (s.2.map eL),.int 0]] false)]⟩) (fun j => j ≤ B.length) (fun j => B.length - j)
       (fun _ => ⟨[(0,.c (.val (.sl 1 (t.map eI)))),(3,.c (.own 3 A.length)),(5,.c (.val (.sl 1 (b.map eI)))),(6,.c (.own 6 (X ++ B.map (catS s)).length)),(16,.c (.val (.sl 1 ((brs t).map eL)))),(17,.c (.val (.int (brs t).length))),(18,.c (.val (.int k))),(23,.c (.own 3 A.length)),(24,.c (.val (.int A.length))),(25,.c (.val (.int i)))],
        [(3,.row 3 (A.map eS0) false),(6,.row 3 ((X ++ B.map (catS s)).map eS0) false)]⟩) (fun _ => True) 0 (Nat.zero_le _) ?_ ?_ ?_
      ·exact gw38
      ·intro j hj
       have hj:j ≤ B.length:=hj
       have hwj:=qI (n:=j) (by omega)
       by_cases hjB:j < B.length
       ·have l1:((j:Int) < (B.length:Int)) = True:=eq_true (by omega)
        have l2:((0:Int) ≤ (j:Int)) = True:=eq_true (by omega)
        obtain ⟨c,hc⟩:∃ c,c = B[j]:=⟨_,rfl⟩
        have hcm:=hsB B[j] (List.getElem_mem _)
        have hgc:(B.map eS0)[j]? = some [.sl 1 (c.1.map eL),.sl 1 (c.2.map eL),.int 0]:=by rw [qP hjB,hc];rfl
        have htkB:X ++ (B.take (j + 1)).map (catS s) = (X ++ (B.take j).map (catS s)) ++ [catS s c]:=by
         rw [hc,List.take_succ_eq_append_getElem hjB,List.map_append,List.append_assoc];rfl
        rw [← hc] at hcm
        have hYl:(X ++ (B.take j).map (catS s)).length ≤ 256:=by rw [List.length_append,List.length_map,List.length_take];omega
        obtain ⟨Y,hY⟩:∃ Y,Y = X ++ (B.take j).map (catS s):=⟨_,rfl⟩
        rw [← hY] at htkB hYl ⊢
        have q1:=jS (n:=Y.length + 1) (by omega)
        have q2:=jO (n:=Y.length + 1) (c:=56) (by omega) (by omega)
        have hYm:(Y.map eS0).length = Y.length:=List.length_map _
        have e1:=eq_true (And.intro hsm.1 hcm.1)
        have e2:=eq_true (And.intro hsm.2 hcm.2)
        refine gw37 (kk 59) (Y4 l1 l2 hgc hBl) ?_
        (((with_reducible refine qQ.wFz (qX 80) TCat qE [41,47] (tr:=?_) (s1:=?_) (rest:=?_) ?_ ?_ ?_);rotate_left 3;(focus ((with_reducible refine QW ?_);simp only [Zg,Zd,Zi,seval,drunF,kT,xS,valD,vJ,List.contains_cons,List.contains_nil,TCat,TCat,codLLL_d,cat2_eq,e1,e2,q1,q2,hYm];with_reducible rfl));focus ((with_reducible refine QK ?_);simp only [Zk];kernel_rfl));(refine qV.opsT (qX 80) (T:=TCat) (s':=?_) ?_ ?_;rotate_left 1;focus (simp only [Zg,Zi,seval,TCat,TCat,codLLL_d,cat2_eq,e1,e2,q1,q2,hYm];with_reducible rfl)))
        refine gw28 (kk 59) hwj ?_
        refine qW.on (j + 1) ⟨hjB,by omega⟩ ?_
        rw [htkB]
        exact gw63
       ·have l1:((j:Int) < (B.length:Int)) = False:=eq_false (by omega)
        obtain rfl:j = B.length:=by omega
        rw [List.take_length]
        refine gw28 (kk 59) l1 ?_
        refine qW.out () trivial ?_
        exact gw6
      ·rintro _ _
       refine gw28 (kk 59) hwi ?_
       refine qW.on (i + 1) ⟨hiA,by omega⟩ ?_
       rw [htkA]
       exact gw6
     ·have j1:((i:Int) < (A.length:Int)) = False:=eq_false (by omega)
      obtain rfl:i = A.length:=by omega
      rw [List.take_length]
      refine gw28 (kk 59) j1 ?_
      refine qW.out () trivial ?_
      exact gw6
    ·rintro _ _
     refine gw28 (kk 59) hwk ?_
     refine qW.on (k + 1) ⟨hkb,by omega⟩ ?_
     rw [htk]
     exact gw6
   ·have i1:((k:Int) < ((brs t).length:Int)) = False:=eq_false (by omega)
    obtain rfl:k = (brs t).length:=by omega
    rw [List.take_length]
    refine gw28 (kk 59) i1 ?_
    refine qW.out () trivial ?_
    exact gw6
  ·rintro _ _
   have g1:=kM hlev
   have g2:=vU hlev (by omega)
   obtain ⟨A,hA⟩:∃ A,A = prodS ((brs t).map split):=⟨_,rfl⟩
   rw [← hA] at g1 g2 ⊢
   refine gw28 (kk 59) Y0 ?_
   refine qQ.loop (β:=Nat) (γ:=Unit) (fun i => ⟨[(0,.c (.val (.sl 1 (t.map eI)))),(3,.c (.own 3 A.length)),(56,.c (.own 3 A.length)),(57,.c (.val (.int A.length))),(58,.c (.val (.int i)))],[(3,.row 3 ((A.take i).map (fun s => eS0 (rootS s)) ++ (A.drop i).map eS0) false)]⟩) (fun i => i ≤ A.length) (fun i => A.length - i)
    (fun _ => ⟨[(0,.c (.val (.sl 1 (t.map eI)))),(3,.c (.own 3 A.length))],[(3,.row 3 (A.map fun s => eS0 (rootS s)) false)]⟩) (fun _ => True) 0 (Nat.zero_le _) ?_ ?_ ?_
   ·exact gw64
   ·intro i hi
    have hi:i ≤ A.length:=hi
    have hwi:=qI (n:=i) (by omega)
    have hrl:((A.take i).map (fun s => eS0 (rootS s)) ++ (A.drop i).map eS0).length = A.length:=by rw [List.length_append,List.length_map,List.length_map,List.length_take,List.length_drop];omega
    by_cases hiA:i < A.length
    ·have j1:((i:Int) < (A.length:Int)) = True:=eq_true (by omega)
     have j2:((0:Int) ≤ (i:Int)) = True:=eq_true (by omega)
     obtain ⟨s,hs⟩:∃ s,s = A[i]:=⟨_,rfl⟩
     have hgood:=g1 A[i] (List.getElem_mem _)
     have hdr:A.drop i = s :: A.drop (i + 1):=by rw [hs];exact List.drop_eq_getElem_cons hiA
     have hti:((A.take i).map fun s => eS0 (rootS s)).length = i:=by rw [List.length_map,List.length_take];omega
     have hgs:((A.take i).map (fun s => eS0 (rootS s)) ++ (A.drop i).map eS0)[i]? = some [.sl 1 (s.1.map eL),.sl 1 (s.2.map eL),.int 0]:=by
      rw [List.getElem?_append_right (by omega),hti,Nat.sub_self,hdr];rfl
     rw [← hs] at hgood
     have hlv:∀ b ∈ s.2,qY b:=fun b hb => (hgood.1 b (by simp [hb])).1
     have hsum:=hgood.2
     have hro:=AFn.valT (a_rootOn s.2 (fun b hb => (hlv b hb).small (by have:=yX hb;omega)) (by omega))
     have hcr:=AFn.valT (yE0 (qT s.2) (kN hlv) (by rw [xA];omega))
     simp only [eL,eLL] at hro hcr
     refine gw65 (kk 59) (Y5 j1 j2 hgs hrl hwi) ?_
     have hset:((A.take i).map (fun s => eS0 (rootS s)) ++ (A.drop i).map eS0).set i [.sl 1 (s.1.map eL),.sl 1 [[.sl 1 ((canon (qT s.2)).map eI)]],.int 0] = (A.take (i + 1)).map (fun s => eS0 (rootS s)) ++ (A.drop (i + 1)).map eS0:=by
      rw [List.set_append_right _ _ (by omega),hti,Nat.sub_self,hdr,List.map_cons,List.set_cons_zero,List.take_succ_eq_append_getElem hiA,List.map_append,List.append_assoc,← hs]
      rfl
     refine qW.on (i + 1) ⟨hiA,by omega⟩ ?_
     rw [← hset]
     exact gw6
    ·have j1:((i:Int) < (A.length:Int)) = False:=eq_false (by omega)
     obtain rfl:i = A.length:=by omega
     have hd0:A.drop A.length = []:=List.drop_length
     refine gw28 (kk 59) j1 ?_
     refine qW.out () trivial ?_
     rw [List.take_length,hd0,List.map_nil,List.append_nil]
     exact gw6
   ·rintro _ _
    have q1:=jS (n:=A.length + 1) (by omega)
    have q2:=jO (n:=A.length + 1) (c:=56) (by omega) (by omega)
    have hml:(A.map fun s => eS0 (rootS s)).length = A.length:=List.length_map _
    refine gw66 (kk 59) (Y3 q1 q2 hml) ?_
    exact gw67
end Go.Proofs.YtedgfkpfhonlpaaGreat

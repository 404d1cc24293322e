/- Lemmas (4). -/
import Derived.Deep.RegionHeld3
import Derived.MapKept
import Derived.WalkKit
import Derived.Test.YtedgfkpfhonlpaaGreatZN0
import Derived.Test.YtedgfkpfhonlpaaGreatZN3
set_option maxHeartbeats 16000000
set_option maxRecDepth 100000
set_option linter.unusedSimpArgs false
set_option linter.unusedVariables false
namespace Go.Proofs.YtedgfkpfhonlpaaGreat
open Go.RowKit
section
def PlainC:List D→List D→Prop
 | [],x' => x' = []
 | x :: xs,x' => ∃ y ys,x' = y :: ys∧(isSl x = false→y = x)∧PlainC xs ys
def PlainL:List (List D)→List (List D)→Prop
 | [],x' => x' = []
 | x :: xs,x' => ∃ y ys,x' = y :: ys∧PlainC x y∧PlainL xs ys
theorem tagC_of' {A:Nat→Prop} {w:World}:∀ {x:List D} {cs:List Value} {F:List Nat},ownCs w cs x F→(∀ b ∈ F,A b)→∃ x',TagC x x' F∧PlainC x x'∧rdCs A w cs x'
 | [],cs,F,h,_ => by
  obtain ⟨d,h1,h2⟩:=h
  exact ⟨[],⟨rfl,h2⟩,rfl,by rw [h1];exact rdCs.nil⟩
 | x :: xs,cs,F,h,hA => by
  obtain ⟨v,us,G,H,rfl,rfl,h1,h2⟩:=h.cons_inv
  obtain ⟨ys,h3,h5,h4⟩:=tagC_of' h2 (fun b hb => hA b (List.mem_append_right _ hb))
  cases hx:isSl x with
  | true =>
   exact ⟨.tag G x :: ys,⟨_,_,G,H,rfl,rfl,.inl rfl,h3⟩,⟨_,_,rfl,(fun e => by rw [hx] at e;cases e),h5⟩,rdCs.cons (kW.2 ⟨fun b hb => hA b (List.mem_append_left _ hb),h1⟩) h4⟩
  | false =>
   have hG:=ownV_scal_nil hx h1
   subst hG
   exact ⟨x :: ys,⟨_,_,[],H,rfl,rfl,.inr ⟨hx,rfl,rfl⟩,h3⟩,⟨_,_,rfl,(fun _ => rfl),h5⟩,rdCs.cons (h1.rd.mono (fun b hb _ => by cases hb)) h4⟩
theorem tagL_of' {A:Nat→Prop} {w:World} {k:Nat} (hk:0 < k):∀ {xs:List (List D)} {ds:List Value} {F:List Nat},ownR k w ds xs F→(∀ b ∈ F,A b)→∃ xs',TagL xs xs' F∧PlainL xs xs'∧rdR k A w ds xs'
 | [],ds,F,h,_ => by
  obtain ⟨d,_,h1,h2⟩:=h
  exact ⟨[],⟨rfl,h2⟩,rfl,by rw [h1];exact rdR.nil hk⟩
 | x :: xs,ds,F,h,hA => by
  obtain ⟨c,e,G,H,rfl,rfl,hx,hc,h1,h2⟩:=h.cons_inv
  obtain ⟨y,k1,k5,k2⟩:=tagC_of' h1 (fun b hb => hA b (List.mem_append_left _ hb))
  obtain ⟨ys,k3,k6,k4⟩:=tagL_of' hk h2 (fun b hb => hA b (List.mem_append_right _ hb))
  exact ⟨y :: ys,⟨y,ys,G,H,rfl,rfl,k1,k3⟩,⟨_,_,rfl,k5,k6⟩,(rdR.single hk (by rw [k1.len,hx]) k2).append k4⟩
section
variable {P:Program} {cfg:Cfg} {M:Nat→Prop} {ops:Array Oper} {s:St} {w0:W0} {w:World} {Ok:Nat→Prop} {N:Nat} {σ:Asg} {a:Act} {fs:List Fr} {Q:Exit→St→Prop}
theorem Sim.tagO' (h:Sim w0 Ok N σ s a w) {key k:Nat} {xs:List (List D)} (hk:look key s.heap = some (.row k xs true)) :
  ∃ xs' F,TagL xs xs' F∧PlainL xs xs'∧F.Nodup∧(∀ b ∈ F,w0.mine b)∧Sim w0 Ok N σ ⟨s.regs,insR key (.row k xs' false) s.heap⟩ a w:=by
 have hro:=h.rows key _ hk
 obtain ⟨ds,hrow,hkp,hel⟩:=hro.row
 have hel:ownR k w ds xs (σ.F key):=hel
 have hfp:fp σ key (.row k xs true) = (σ.g key).toList ++ σ.F key:=rfl
 obtain ⟨xs',ht,hpl,hrd⟩:=tagL_of' (A:=Zn σ s.heap w) hkp hel (RowOK.Fz h.ok1 h.rows h.disj hk rfl)
 refine ⟨xs',σ.F key,ht,hpl,?_,fun b hb => hro.fresh b (by rw [hfp];exact List.mem_append_right _ hb),?_⟩
 ·have:=hro.nodup;rw [hfp] at this;exact (List.nodup_append.1 this).2.1
 have hl:∀ q o',look q (insR key (.row k xs' false) s.heap) = some o'→∃ o,look q s.heap = some o∧o.k = o'.k∧o.len = o'.len∧(∀ b ∈ fp σ q o',b ∈ fp σ q o)∧(q = key∧o' = .row k xs' false ∨ q ≠ key∧o' = o):=by
  intro q o' ho'
  rw [jU] at ho'
  split at ho'
  ·rename_i e
   subst e
   cases ho'
   refine ⟨_,hk,rfl,ht.len.symm,fun b hb => ?_,.inl ⟨rfl,rfl⟩⟩
   have hb:b ∈ (σ.g key).toList ++ []:=hb
   rw [hfp]
   rw [List.append_nil] at hb
   exact List.mem_append_left _ hb
  ·rename_i e
   exact ⟨o',ho',rfl,rfl,fun _ hb => hb,.inr ⟨fun e' => e e'.symm,rfl⟩⟩
 have hZ:jQ σ σ s.heap (insR key (.row k xs' false) s.heap) w w:=fun b hb => ⟨⟨hb.1,hb.2.1,fun q o' ho' => by obtain ⟨o,ho,_⟩:=hl q o' ho';exact hb.2.2 q o ho⟩,rfl⟩
 have hst:∀ q,jY σ σ s.heap (insR key (.row k xs' false) s.heap) q:=fun q o' ho' => by obtain ⟨o,ho,h1,h2,_⟩:=hl q o' ho';exact ⟨o,ho,h1,h2,rfl,rfl⟩
 refine h.step rfl h.below hZ (fun _ _ => rfl) (fun r av hr => ⟨av,hr,.inl ⟨rfl,fun q _ => hst q⟩⟩) (fun q o' ho' => ?_) (fun p o1 q u hp hq hpq b hb hb' => ?_)
 ·obtain ⟨o,ho,h1,h2,h3,h4⟩:=hl q o' ho'
  rcases h4 with ⟨rfl,rfl⟩|⟨hq,rfl⟩
  ·obtain rfl:o = .row k xs true:=by rw [hk] at ho;cases ho;rfl
   refine ⟨⟨ds,?_,hkp,?_⟩,fun b hb => hro.fresh b (h3 b hb),?_⟩
   ·show Row w (slv (σ.g q) xs'.length (σ.cap q)) k xs'.length ds (σ.g q)
    rw [ht.len];exact hrow
   ·show rdR k _ w ds xs'
    exact hrd.mono (fun b hb _ => (hZ b hb).1)
   ·have hn:=hro.nodup
    rw [hfp] at hn
    show ((σ.g q).toList ++ []).Nodup
    rw [List.append_nil]
    exact (List.nodup_append.1 hn).1
  ·exact RowOK.keep h.ok1 h.rows h.disj ho hZ (fun q' _ => hst q') rfl rfl rfl (fun _ _ => rfl)
 ·obtain ⟨o2,ho2,_,_,h3,_⟩:=hl p o1 hp
  obtain ⟨u2,hu2,_,_,h4,_⟩:=hl q u hq
  exact h.disj p o2 q u2 ho2 hu2 hpq b (h3 b hb) (h4 b hb')
theorem qJ.tag' {c:Code} (key:Nat) {k:Nat} {xs:List (List D)} (hk:look key s.heap = some (.row k xs true)) (h:∀ xs' F,TagL xs xs' F→PlainL xs xs'→F.Nodup→(∀ b ∈ F,M b)→qJ P cfg M c fs Q ⟨s.regs,insR key (.row k xs' false) s.heap⟩):qJ P cfg M c fs Q s:=by
 intro w0 Ok σ a w Q' hM hS hQ
 obtain ⟨xs',F,h1,h5,h2,h3,h4⟩:=Sim.tagO' hS hk
 exact h xs' F h1 h5 h2 (fun b hb => hM.1 ▸ h3 b hb) w0 Ok σ a w Q' hM h4 hQ
theorem Sim.untag (h:Sim w0 Ok N σ s a w) {key k:Nat} {xs xs':List (List D)} {F:List Nat} (hk:look key s.heap = some (.row k xs' false)) (ht:TagL xs xs' F) (hn:F.Nodup) (hF:∀ b ∈ F,w0.mine b) (ho:∀ q o,look q s.heap = some o→o.deep = false) :
  ∃ σ',Sim w0 Ok N σ' ⟨s.regs,insR key (.row k xs true) s.heap⟩ a w:=by
 have hro:=h.rows key _ hk
 obtain ⟨ds,hrow,hkp,hel⟩:=hro.row
 have hel:rdR k (Zn σ s.heap w) w ds xs':=hel
 have hZF:∀ b ∈ F,Zn σ s.heap w b:=tagL_sub ht hel
 let σ':Asg:=⟨σ.g,σ.cap,fun q => if q = key then F else σ.F q,σ.ok⟩
 have hl:∀ q o',look q (insR key (.row k xs true) s.heap) = some o'→∃ o,look q s.heap = some o∧o.k = o'.k∧o.len = o'.len∧(q = key∧o' = .row k xs true ∨ q ≠ key∧o' = o):=by
  intro q o' ho'
  rw [jU] at ho'
  split at ho'
  ·rename_i e
   subst e
   cases ho'
   exact ⟨_,hk,rfl,ht.len,.inl ⟨rfl,rfl⟩⟩
  ·rename_i e
   exact ⟨o',ho',rfl,rfl,.inr ⟨fun e' => e e'.symm,rfl⟩⟩
 have hZ:jQ σ σ' s.heap (insR key (.row k xs true) s.heap) w w:=fun b hb => ⟨⟨hb.1,hb.2.1,fun q o' ho' => by obtain ⟨o,ho,_⟩:=hl q o' ho';exact hb.2.2 q o ho⟩,rfl⟩
 have hst:∀ q,jY σ σ' s.heap (insR key (.row k xs true) s.heap) q:=fun q o' ho' => by obtain ⟨o,ho,h1,h2,_⟩:=hl q o' ho';exact ⟨o,ho,h1,h2,rfl,rfl⟩
 have hfpk:fp σ' key (.row k xs true) = (σ.g key).toList ++ F:=by simp [fp,Obj.deep,σ']
 have hfpo:∀ q o,look q s.heap = some o→q ≠ key→fp σ' q o = (σ.g q).toList:=fun q o hq hne => by simp [fp,ho q o hq,σ']
 have hfp1:∀ q o,look q s.heap = some o→fp σ q o = (σ.g q).toList:=fun q o hq => by simp [fp,ho q o hq]
 refine ⟨σ',h.step rfl h.below hZ (fun _ _ => rfl) (fun r av hr => ⟨av,hr,.inl ⟨rfl,fun q _ => hst q⟩⟩) (fun q o' ho' => ?_) (fun p o1 q u hp hq hpq b hb hb' => ?_)⟩
 ·obtain ⟨o,hoq,h1,h2,h4⟩:=hl q o' ho'
  rcases h4 with ⟨rfl,rfl⟩|⟨hq,rfl⟩
  ·have hfk:=hfp1 q _ hk
   have hn1:=hro.nodup
   rw [hfk] at hn1
   refine ⟨⟨ds,?_,hkp,?_⟩,fun b hb => ?_,?_⟩
   ·show Row w (slv (σ.g q) xs.length (σ.cap q)) k xs.length ds (σ.g q)
    rw [← ht.len];exact hrow
   ·show ownR k w ds xs (if q = q then F else σ.F q)
    rw [if_pos rfl]
    exact tagL_own hkp ht hel
   ·rw [hfpk] at hb
    rcases List.mem_append.1 hb with hb|hb
    ·exact hro.fresh b (by rw [hfk];exact hb)
    ·exact hF b hb
   ·rw [hfpk]
    refine List.nodup_append.2 ⟨hn1,hn,fun b hb c hc e => ?_⟩
    subst e
    exact (hZF b hc).2.2 q _ hk (by simpa using hb)
  ·refine RowOK.keep h.ok1 h.rows h.disj hoq hZ (fun q' _ => hst q') rfl rfl ?_ (fun _ _ => rfl)
   show (if q = key then F else σ.F q) = σ.F q
   rw [if_neg hq]
 ·obtain ⟨o2,ho2,_,_,h3⟩:=hl p o1 hp
  obtain ⟨u2,hu2,_,_,h4⟩:=hl q u hq
  have hd:=h.disj p o2 q u2 ho2 hu2 hpq b
  rw [hfp1 p o2 ho2,hfp1 q u2 hu2] at hd
  rcases h3 with ⟨rfl,rfl⟩|⟨hpk,rfl⟩
  ·rw [hfpk] at hb
   rcases h4 with ⟨rfl,_⟩|⟨hqk,rfl⟩
   ·exact hpq rfl
   ·rw [hfpo q u hu2 hqk] at hb'
    rcases List.mem_append.1 hb with hb|hb
    ·exact hd hb hb'
    ·exact (hZF b hb).2.2 q _ hu2 (by simpa using hb')
  ·rw [hfpo p o1 ho2 hpk] at hb
   rcases h4 with ⟨rfl,rfl⟩|⟨hqk,rfl⟩
   ·rw [hfpk] at hb'
    rcases List.mem_append.1 hb' with hb'|hb'
    ·exact hd hb hb'
    ·exact (hZF b hb').2.2 p _ ho2 (by simpa using hb)
   ·rw [hfpo q u hu2 hqk] at hb'
    exact hd hb hb'
theorem qJ.untag {c:Code} (key:Nat) {k:Nat} {xs xs':List (List D)} {F:List Nat} (hk:look key s.heap = some (.row k xs' false)) (ht:TagL xs xs' F) (hn:F.Nodup) (hF:∀ b ∈ F,M b) (ho:s.heap.all (fun p => !p.2.deep) = true)
  (h:qJ P cfg M c fs Q ⟨s.regs,insR key (.row k xs true) s.heap⟩):qJ P cfg M c fs Q s:=by
 intro w0 Ok σ a w Q' hM hS hQ
 obtain ⟨σ',h1⟩:=Sim.untag hS hk ht hn (fun b hb => hM.1 ▸ hF b hb) (fun q o hq => by
  have:=List.all_eq_true.1 ho _ (yC hq)
  simpa using this)
 exact h w0 Ok σ' a w Q' hM h1 hQ
end
section
variable {P:Program} {cfg:Cfg} {M:Nat→Prop} {ops:Array Oper} {s:St}
theorem qW.callEf (C:CfgOK P cfg) {o:Oper} {l:List Oper} {Q:St→Prop} (hg:o.guard = none) {d:Nat} (hod:o.dst = some d) (hdN:d < cfg.N) {f:Operand} {args:Array Operand} {ts:Array TypeId} {g:FuncId}
  (ho:o.op = .call ⟨.value f,args,ts⟩) (hf:((opv s.regs f).bind avD).bind fnId = some g) {x:Operand} {xpost:List Operand} {tpost:List TypeId} (ha:args.toList = x :: xpost) {t0:TypeId} (hts:ts.toList = t0 :: tpost) {post:List (List D)}
  (hpost:aargs cfg (fun k => look k s.heap) s.regs xpost tpost = some post) (hr2:qM s.regs xpost = []) {key n k:Nat} {xs:List (List D)} (hxv:opv s.regs x = some (.c (.own key n))) (hk:look key s.heap = some (.row k xs false))
  (hnr:∀ q u,q ≠ key→look q s.heap = some u→key ∉ u.refs) {Q0:List Res→Option (List (List D))→Prop} (hfn:AEf P g false [] k xs post Q0) {R:List (List D)→Prop} (hQ0:∀ rs oc,Q0 rs oc→rs = []∧∃ ys,oc = some ys∧R ys)
  (h:∀ ys,R ys→qW P cfg M ops l Q ⟨insR d (.tup []) s.regs,insR key (.row k ys false) s.heap⟩):qW P cfg M ops (o :: l) Q s:=by
 intro w0 Ok σ a w Q' hM hS hQ
 refine wpList_step (fun K hK => ?_)
 have hw:qN ops s.regs o = some true:=by unfold qN;rw [hg]
 rw [xX hS hw]
 simp only [if_true]
 refine n_callE C hS ho hf (ptr:=false) (xpre:=[]) (tpre:=[]) (pre:=[]) (by rw [ha];rfl) rfl hpost rfl hr2 hxv hk (fun e => nomatch e) hnr hfn (dk:=d) (fun rs oc hq q ob hl => ?_) (fun rs oc hq v w' σ' hv hS' => ?_)
 ·obtain ⟨rfl,_⟩:=hQ0 _ _ hq
  cases hl
 ·obtain ⟨rfl,ys,rfl,hR⟩:=hQ0 _ _ hq
  rw [hod]
  have hsub:∀ q o',look q (insR key (.row k ys false) s.heap) = some o'→look q (heapE key k (some ys) [] s.heap) = some o':=by
   intro q o' hq
   rw [jU] at hq
   unfold heapE
   rw [List.nil_append,yT,look_left]
   simp only
   by_cases e:key = q
   ·rw [if_pos e];rw [if_pos e] at hq;exact hq
   ·rw [if_neg e]
    rw [if_neg e] at hq
    rw [yU,if_neg (fun h => e h.symm)]
    exact hq
  have hR':Sim w0 Ok cfg.N σ' ⟨s.regs,heapE key k (some ys) [] s.heap⟩ a w':=hS'
  exact hK _ _ (h ys hR w0 Ok σ' _ _ Q' hM (Sim.ins (hR'.forget (fun _ _ h => h) hsub) hdN (hv.sub hsub)) hQ)
end
end
section
theorem exists_not {l:List Nat}:∃ k,k ∉ l:=by
 have key:∀ (l:List Nat),∀ x ∈ l,x ≤ l.sum:=by
  intro l
  induction l with
  | nil => intro x hx;cases hx
  | cons y l ih =>
   intro x hx
   rw [List.sum_cons]
   rcases List.mem_cons.1 hx with rfl|hx
   ·omega
   ·have:=ih x hx;omega
 exact ⟨l.sum + 1,fun h => by have:=key l _ h;omega⟩
theorem exists_free (s:St):∃ k,Free s k:=by
 obtain ⟨k,hk⟩:=exists_not (l:=s.heap.map (·.1) ++ s.regs.flatMap (·.2.refs) ++ s.heap.flatMap (·.2.refs))
 simp only [List.mem_append,not_or] at hk
 obtain ⟨⟨h1,h2⟩,h3⟩:=hk
 refine ⟨k,?_,fun r av hr hm => h2 (List.mem_flatMap.2 ⟨_,yC hr,hm⟩),fun q u hq hm => h3 (List.mem_flatMap.2 ⟨_,yC hq,hm⟩)⟩
 cases e:look k s.heap with
 | none => rfl
 | some o => exact absurd (List.mem_map.2 ⟨_,yC e,rfl⟩) h1
theorem AC.frz_id {key k:Nat} {xs:List (List D)} {x:AC} (h:key ∉ x.refs):x.frz key k xs = x:=by
 cases x with
 | own q n => simp only [AC.refs,List.mem_singleton] at h;simp only [AC.frz];rw [if_neg (fun e => h e.symm)]
 | view q i n => simp only [AC.refs,List.mem_singleton] at h;simp only [AC.frz];rw [if_neg (fun e => h e.symm)]
 | _ => rfl
theorem yR0 {key k:Nat} {xs:List (List D)}:∀ {cs:List AC},key ∉ cs.flatMap AC.refs→cs.map (AC.frz key k xs) = cs
 | [],_ => rfl
 | c :: cs,h => by
  rw [List.flatMap_cons,List.mem_append,not_or] at h
  rw [List.map_cons,AC.frz_id h.1,yR0 h.2]
theorem AV.frz_id {key k:Nat} {xs:List (List D)} {x:AV} (h:key ∉ x.refs):x.frz key k xs = x:=by
 cases x with
 | c x => simp only [AV.frz];rw [AC.frz_id h]
 | eptr => rfl
 | optr q i j => simp only [AV.refs,List.mem_singleton] at h;simp only [AV.frz];rw [if_neg (fun e => h e.symm)]
 | agg cs => simp only [AV.frz];rw [yR0 h]
 | tup cs => simp only [AV.frz];rw [yR0 h]
 | dead => rfl
theorem Obj.frz_id {key k:Nat} {xs:List (List D)} {o:Obj} (h:key ∉ o.refs):o.frz key k xs = o:=by
 cases o with
 | row => rfl
 | pin => rfl
 | lit k' css =>
  simp only [Obj.frz]
  congr 1
  have h:key ∉ css.flatMap (·.flatMap AC.refs):=h
  have:∀ css:List (List AC),key ∉ css.flatMap (·.flatMap AC.refs)→css.map (·.map (AC.frz key k xs)) = css:=by
   intro css
   induction css with
   | nil => intro _;rfl
   | cons c css ih =>
    intro h
    rw [List.flatMap_cons,List.mem_append,not_or] at h
    rw [List.map_cons,yR0 h.1,ih h.2]
  exact this css h
section
variable {P:Program} {cfg:Cfg} {M:Nat→Prop} {ops:Array Oper} {s s':St} {w0:W0} {w:World} {Ok:Nat→Prop} {N:Nat} {σ:Asg} {a:Act} {fs:List Fr} {Q:Exit→St→Prop} {T:Tab P}
def valD:AV→Option D
 | .c (.val d) => some d
 | _ => Option.none
def vV (cfg:Cfg) (ops:Array Oper) (o:Oper) (s:St):Option Tel :=
 match o.op with
 | .buildSlice t len parts => if dstOK cfg o = true∧qN ops s.regs o = some true then
   o.dst.bind fun d => (cfg.sl t).bind fun i => if len = parts.size∧len * i.z.length ≤ 16777216 then (xT s.regs 0 parts.toList).bind fun css => (rowsD i.z css).map fun r => ⟨⟨d,.c (.val (.sl i.z.length r.1)),[]⟩,qM s.regs o.op.operands.toList⟩ else Option.none
  else Option.none
 | .assign x => if dstOK cfg o = true∧qN ops s.regs o = some true then
   o.dst.bind fun d => ((opv s.regs x).bind valD).map fun v => ⟨⟨d,.c (.val v),[]⟩,[]⟩
  else Option.none
 | _ => Option.none
theorem jO.asg (C:CfgOK P cfg) {i:Nat} {o:Oper} (hi:ops[i]? = some o) {x:Operand} (hop:o.op = .assign x) (hd:dstOK cfg o = true) {d:Nat} (hdd:o.dst = some d) (hb:qN ops s.regs o = some true) {v:D} (hv:opv s.regs x = some (.c (.val v))):jO P cfg ops i s ⟨⟨d,.c (.val v),[]⟩,[]⟩:=by
 refine ⟨o,hi,hdd,fun s' h1 h2 h3 w0 Ok σ a w K Q hhd hS hK => ?_⟩
 have hw:qN ops s'.regs o = some true:=by rw [qW0 h1,hb]
 have hov:opv s'.regs x = some (.c (.val v)):=by
  rw [← hv]
  cases x with
  | tmp t =>
   have:=h1 t (kT0 (by rw [hop];simp [Op.operands]))
   simp only [opv,this]
  | _ => rfl
 have hst:astep cfg ops o s' = some (s'.add ⟨d,.c (.val v),[]⟩):=by
  unfold astep
  rw [if_pos hd,hw]
  simp only [Option.bind_some,if_true,hop,isMut,hdd,amut,hov]
  rfl
 have:=astep_wp C hS hst hK (Q:=Q)
 unfold wpOp
 simp only [hi]
 split
 ·rename_i hw2;rw [if_pos hw2] at this;exact .inl this
 ·rename_i hw2;rw [if_neg hw2] at this;exact this
theorem jO.lit (C:CfgOK P cfg) {i:Nat} {o:Oper} (hi:ops[i]? = some o) {t:Tel} (h:vV cfg ops o s = some t):jO P cfg ops i s t:=by
 unfold vV at h
 split at h
 ·rename_i ty len parts hop
  split at h
  ·rename_i hc
   obtain ⟨d,hd,h⟩:=bind_some h
   obtain ⟨it,hit,h⟩:=bind_some h
   split at h
   ·rename_i hsz
    obtain ⟨css,hcss,h⟩:=bind_some h
    obtain ⟨⟨xs,b⟩,hr,rfl⟩:=map_some h
    refine ⟨o,hi,hd,fun s' h1 h2 h3 w0 Ok σ a w K Q hhd hS hK => ?_⟩
    have hw:qN ops s'.regs o = some true:=by rw [qW0 h1,hc.2]
    have hopl:o.op.operands.toList = parts.toList.map (·.2):=by rw [hop];rfl
    have hag:=agree_of (xs:=o.op.operands.toList) (fun x hx => hx) h1 h2
    rw [hopl] at hag
    have hcss':xT s'.regs 0 parts.toList = some css:=by rw [xH0 hag,hcss]
    obtain ⟨q,hq⟩:=exists_free s'
    have hmk:mkObj it.z css = some (.row it.z.length xs b):=by unfold mkObj;rw [hr]
    have ha:anew cfg (fun k => look k s'.heap) s'.regs q o.op = some (.c (.own q len),[(q,.row it.z.length xs b)]):=by
     rw [hop]
     simp only [anew,hit,Option.bind_some]
     rw [if_pos hsz,hcss']
     simp only [Option.bind_some,hmk,Option.map_some]
    unfold wpOp
    simp only [hi,xX hS hw,if_true]
    left
    have hdN:d < cfg.N:=by have:=hc.1;rw [dstOK,hd] at this;simpa using this
    refine anew_doesF C hS (news:=[(q,.row it.z.length xs b)]) (av:=.c (.own q len)) ha (fun p ob hp => ?_) _ _ (fun v w' σ' hv hS' => ?_)
    ·have hp:(if q = p then some (Obj.row it.z.length xs b) else none) = some ob:=hp
     split at hp
     ·rename_i e;subst e;exact hq
     ·cases hp
    ·rw [hd]
     have hS1:=Sim.ins hS' hdN hv
     have hS2:=Sim.frz hS1 q
     refine hK σ' _ _ ?_
     have hlq:look q (⟨insR d (.c (.own q len)) s'.regs,[(q,Obj.row it.z.length xs b)] ++ s'.heap⟩:St).heap = some (.row it.z.length xs b):=by show look q ((q,Obj.row it.z.length xs b) :: s'.heap) = _;rw [look,if_pos rfl]
     have e:(⟨insR d (.c (.own q len)) s'.regs,[(q,Obj.row it.z.length xs b)] ++ s'.heap⟩:St).frz q = ⟨frzR q it.z.length xs (insR d (.c (.own q len)) s'.regs),frzH q it.z.length xs (drop q ([(q,Obj.row it.z.length xs b)] ++ s'.heap))⟩:=by
      unfold St.frz;rw [hlq]
     rw [e] at hS2
     refine hS2.forget (fun r av hr => ?_) (fun k o' ho' => ?_)
     ·have hr:look r (insR d (.c (.val (.sl it.z.length xs))) s'.regs) = some av:=hr
      rw [jU] at hr
      show look r (frzR q it.z.length xs (insR d (.c (.own q len)) s'.regs)) = _
      rw [look_frzR,jU]
      by_cases er:d = r
      ·rw [if_pos er] at hr ⊢
       cases hr
       show some (AV.c (if q = q then AC.val (.sl it.z.length xs) else AC.own q len)) = _
       rw [if_pos rfl]
      ·rw [if_neg er] at hr ⊢
       rw [hr]
       show some (av.frz q it.z.length xs) = _
       rw [AV.frz_id (hq.2.1 r av hr)]
     ·have ho':look k s'.heap = some o':=ho'
      show look k (frzH q it.z.length xs (drop q ((q,Obj.row it.z.length xs b) :: s'.heap))) = _
      have hkq:k ≠ q:=by rintro rfl;rw [hq.1] at ho';cases ho'
      rw [look_frzH,yU,if_neg hkq,look,if_neg (fun e => hkq e.symm),ho']
      show some (o'.frz q it.z.length xs) = _
      rw [Obj.frz_id (hq.2.2 k o' ho')]
   ·cases h
  ·cases h
 ·rename_i x hop
  split at h
  ·rename_i hc
   obtain ⟨d,hd,h⟩:=bind_some h
   obtain ⟨v,hv,rfl⟩:=map_some h
   obtain ⟨av,h1,h2⟩:=bind_some hv
   have:av = .c (.val v):=by
    unfold valD at h2
    split at h2
    ·cases h2;rfl
    ·cases h2
   subst this
   exact jO.asg C hi hop hc.1 hd hc.2 h1
  ·cases h
 ·cases h
def kM (fz:List Nat) (cfg:Cfg) (T:Tab P) (ops:Array Oper) (o:Oper) (s:St):Option Tel :=
 bif fz.contains (o.dst.getD 0) then vV cfg ops o s else devalT cfg T ops o s
def drunF (fz:List Nat) (cfg:Cfg) (T:Tab P) (ops:Array Oper):List Oper→St→List Tel × St × List Oper
 | [],s => ([],s,[])
 | o :: l,s => match kM fz cfg T ops o s with
  | some t => ((t :: (drunF fz cfg T ops l (s.add t.e)).1),(drunF fz cfg T ops l (s.add t.e)).2)
  | Option.none => ([],s,o :: l)
theorem drunF_spec {fz:List Nat} (C:CfgOK P cfg):∀ {l:List Oper} {i:Nat} {s:St},(∀ j,l[j]? = ops[i + j]?)→Tr P cfg ops i s (drunF fz cfg T ops l s).1 ∧
  (drunF fz cfg T ops l s).2.1 = (drunF fz cfg T ops l s).1.foldl (fun s t => s.add t.e) s∧(drunF fz cfg T ops l s).2.2 = l.drop (drunF fz cfg T ops l s).1.length
 | [],i,s,_ => ⟨trivial,rfl,rfl⟩
 | o :: l,i,s,hl => by
  have hi:ops[i]? = some o:=by have:=hl 0;simpa using this.symm
  simp only [drunF]
  cases hd:kM fz cfg T ops o s with
  | none => exact ⟨trivial,rfl,rfl⟩
  | some t =>
   obtain ⟨h1,h2,h3⟩:=drunF_spec (fz:=fz) C (l:=l) (i:=i + 1) (s:=s.add t.e) (fun j => by have:=hl (j + 1);simpa [Nat.add_assoc,Nat.add_comm 1 j] using this)
   refine ⟨⟨?_,h1⟩,by simpa using h2,by simpa using h3⟩
   unfold kM at hd
   cases hb:fz.contains (o.dst.getD 0) with
   | true => rw [hb] at hd;exact jO.lit C hi hd
   | false => rw [hb] at hd;exact jO.opT C hi hd
def dregF (s:St):List Tel × St × List Oper→Option (List Tel × St × List Oper)
 | (tr,s1,rest) => if tr.all (fun t => t.e.news.all fun p => fresh s p.1) = true then some (tr,s1,rest) else Option.none
theorem wZ (s:St) (tr:List Tel) (s1:St) (rest:List Oper):dregF s (tr,s1,rest) = if tr.all (fun t => t.e.news.all fun p => fresh s p.1) = true then some (tr,s1,rest) else Option.none:=rfl
theorem qJ.wFz (C:CfgOK P cfg) (T:Tab P) (hm:P.follows .mixedOrders = true) (fz:List Nat) {id:Nat} {tr:List Tel} {s1:St} {rest:List Oper} (hr:Work (dregF s (drunF fz cfg T ops ops.toList s)) (some (tr,s1,rest))) (h1:ChkD ops tr)
  (h:qW P cfg M ops rest (outK P cfg M fs Q .normal) s1):qJ P cfg M (.region id ops true) fs Q s:=by
 have hr:dregF s (drunF fz cfg T ops ops.toList s) = some (tr,s1,rest):=hr
 obtain ⟨⟨tr0,s10,rest0⟩,e⟩:∃ r,r = drunF fz cfg T ops ops.toList s:=⟨_,rfl⟩
 rw [← e,wZ] at hr
 split at hr
 ·rename_i hf
  cases hr
  obtain ⟨k1,k2,k3⟩:=drunF_spec (T:=T) (fz:=fz) C (ops:=ops) (l:=ops.toList) (i:=0) (s:=s) (fun j => by simp)
  rw [← e] at k1 k2 k3
  refine qA.draw hm k1 h1 hf ?_
  show qW P cfg M ops (ops.toList.drop tr.length) _ (tr.foldl (fun s t => s.add t.e) s)
  rw [← k2,← k3]
  exact h
 ·cases hr
end
end
section
def D.marks:D→List Nat
 | .tag F _ => F
 | _ => []
def kO (xs:List (List D)):List Nat:=xs.flatMap (·.flatMap D.marks)
theorem rowMarks_rd {A:Nat→Prop} {w:World} {k:Nat} {ds:List Value} {xs:List (List D)} (h:rdR k A w ds xs):∀ b ∈ kO xs,A b:=by
 intro b hb
 obtain ⟨x,hx,hb⟩:=List.mem_flatMap.1 hb
 obtain ⟨d,hd,hb⟩:=List.mem_flatMap.1 hb
 obtain ⟨i,hi,rfl⟩:=List.getElem_of_mem hx
 obtain ⟨c,h1,_⟩:=h.get i hi
 obtain ⟨j,hj,rfl⟩:=List.getElem_of_mem hd
 obtain ⟨v,_,h2⟩:=h1.get j hj
 cases e:(xs[i])[j] with
 | tag F x =>
  rw [e] at h2 hb
  exact (kW.1 h2).1 b hb
 | _ => rw [e] at hb;cases hb
section
variable {P:Program} {cfg:Cfg} {M:Nat→Prop} {ops:Array Oper} {s:St} {w0:W0} {w:World} {Ok:Nat→Prop} {N:Nat} {σ:Asg} {a:Act} {fs:List Fr} {Q:Exit→St→Prop}
theorem qA.fresh {c:Code} (hd:s.heap.all (fun p => !p.2.deep) = true)
  (h:∀ M':Nat→Prop,(∀ b,M' b→M b)→(∀ key k xs,look key s.heap = some (.row k xs false)→∀ b ∈ kO xs,¬ M' b)→qA P cfg M' c Q s):qA P cfg M c Q s:=by
 intro w0 Ok σ a w Q' hM hS hQ
 have hdeep:∀ q o,look q s.heap = some o→o.deep = false:=fun q o hq => by
  have:=List.all_eq_true.1 hd _ (yC hq)
  simpa using this
 let w1:W0:=@W0.mk w (fun b => ∃ q o,look q s.heap = some o∧b ∈ fp σ q o) w0.hd
 have hmine:∀ b,w1.mine b→w0.mine b:=by
  rintro b (hb|⟨q,o,hq,hb⟩)
  ·exact .inl (Nat.le_trans hS.below.size hb)
  ·exact (hS.rows q o hq).fresh b hb
 have hS1:Sim w1 σ.ok cfg.N σ s a w:=⟨⟨rfl,rfl,rfl,Nat.le_refl _,fun _ _ _ _ => rfl⟩,fun b hb => hS.ok1 b (hmine b hb),fun b hb => .inl hb,hS.defers,hS.size,hS.regs,
  fun key o hk => ⟨(hS.rows key o hk).row,fun b hb => .inr ⟨key,o,hk,hb⟩,(hS.rows key o hk).nodup⟩,hS.disj,hS.inv,fun b hb => ⟨fun hm => (hS.hid b hb).1 (hmine b hm),(hS.hid b hb).2⟩⟩
 refine h w1.mine (fun b hb => hM.1 ▸ hmine b hb) ?_ w1 σ.ok σ a w Q' ⟨rfl,hM.2⟩ hS1 (fun e s' hq σ' a' w' hS' => ?_)
 ·intro key k xs hk b hb hm
  obtain ⟨ds,_,_,hel⟩:=(hS.rows key _ hk).row
  have hel:rdR k (Zn σ s.heap w) w ds xs:=hel
  have hz:=rowMarks_rd hel b hb
  rcases hm with hm|⟨q,o,hq,hm⟩
  ·have hm:w.heap.size ≤ b:=hm
   have:=hz.1;omega
  ·unfold fp at hm
   rw [hdeep q o hq] at hm
   exact hz.2.2 q o hq (by simpa using hm)
 ·let σ2:Asg:=⟨σ'.g,σ'.cap,σ'.F,fun b => σ'.ok b ∨ w0.mine b⟩
  have hZ:jQ σ' σ2 s'.heap s'.heap w' w':=fun b hb => ⟨⟨hb.1,.inl hb.2.1,hb.2.2⟩,rfl⟩
  have hst:∀ k,jY σ' σ2 s'.heap s'.heap k:=fun k o' ho' => ⟨o',ho',rfl,rfl,rfl,rfl⟩
  refine hQ e s' hq σ2 a' w' ⟨hS.below.trans3 hS'.below (fun b hb => hmine b (.inr hb)),fun b hb => .inr hb,?_,hS'.defers,hS'.size,fun r av hr => (hS'.regs r av hr).step hZ (fun k _ => hst k),fun key o hk => ?_,hS'.disj,w0.hd.law hS'.inv (fun b hb => hZ b hb) (fun _ _ => rfl),fun b hb => ⟨(hS.hid b hb).1,fun h => h.elim (hS'.hid b hb).2 (hS.hid b hb).1⟩⟩
  ·rintro b (hb|hb)
   ·rcases hS'.ok2 b hb with h1|h1
    ·exact hS.ok2 b h1
    ·exact .inr (hmine b h1)
   ·exact .inr hb
  ·have hr:=RowOK.keep (σ':=σ2) hS'.ok1 hS'.rows hS'.disj hk hZ (fun k _ => hst k) rfl rfl rfl (fun _ _ => rfl)
   exact ⟨hr.row,fun b hb => hmine b (hr.fresh b hb),hr.nodup⟩
theorem qJ.fresh {c:Code} (hd:s.heap.all (fun p => !p.2.deep) = true)
  (h:∀ M':Nat→Prop,(∀ b,M' b→M b)→(∀ key k xs,look key s.heap = some (.row k xs false)→∀ b ∈ kO xs,¬ M' b)→qJ P cfg M' c [] Q s):qJ P cfg M c [] Q s :=
 qA.fresh hd h
theorem Sim.openR (h:Sim w0 Ok N σ s a w) {r k:Nat} {G:List Nat} {xs:List (List D)} (hr:look r s.regs = some (.c (.val (.tag G (.sl k xs))))) :
  ∃ xs' F,TagL xs xs' F∧PlainL xs xs'∧F.Sublist G∧Sim w0 Ok N σ ⟨insR r (.c (.val (.sl k xs'))) s.regs,s.heap⟩ a w:=by
 obtain ⟨hv1,hv2⟩:=h.regs r _ hr
 have hv2:rdV (Zn σ s.heap w) w (a.eval (.tmp r)) (.tag G (.sl k xs)):=hv2
 obtain ⟨hG,hown⟩:=kW.1 hv2
 obtain ⟨og,ds,F,hrow,hel,rfl⟩:=kS.1 hown
 have hkp:0 < k:=hel.rd.pos
 obtain ⟨xs',ht,hpl,hrd⟩:=tagL_of' (A:=Zn σ s.heap w) hkp hel (fun b hb => hG b (List.mem_append_right _ hb))
 refine ⟨xs',F,ht,hpl,List.sublist_append_right _ _,⟨h.below,h.ok1,h.ok2,h.defers,h.size,fun q av hq => ?_,h.rows,h.disj,h.inv,h.hid⟩⟩
 rw [jU] at hq
 by_cases e:r = q
 ·rw [if_pos e] at hq
  subst e
  cases hq
  refine ⟨hv1,?_⟩
  show rdV _ w (a.eval (.tmp r)) (.sl k xs')
  obtain ⟨oa,c',ev,k1,k2,k3,k4⟩:=hrow.value
  rw [ev,← ht.len]
  refine xQ.2 ⟨oa,c',ds,rfl,by rw [ht.len];exact k1,k2,k3,hrd,?_⟩
  cases og with
  | none =>
   left
   have h0:=hrow.len0
   exact List.eq_nil_of_length_eq_zero (by rw [hrow.1,h0,Nat.zero_mul])
  | some g =>
   refine .inr ⟨g,0,k4,hG g (by simp),fun j u hj => ?_⟩
   rw [Nat.zero_add]
   exact hrow.cells j u hj
 ·rw [if_neg e] at hq
  exact h.regs q av hq
end
end
section
structure AFnH (hd:HidC) (P:Program) (f:FuncId) (ds:List (List D)) (ys:List D):Prop where
 call:∀ args w,(callFunc f args).run P w = .ok (.enter f args) w
 fn:∀ (A:Nat→Prop) w vs,(∀ b,A b→b < w.heap.size)→(∀ b,hd.Y b→b < w.heap.size∧¬ A b)→hd.I A w→jX A w ds vs →
  Calls P f vs.toArray w (fun e w' => ∃ us,e = .returned (outV us)∧Bel (@W0.mk w (fun _ => False) hd) w'∧hd.I (fun b => (A b ∨ w.heap.size ≤ b)∧b < w'.heap.size) w'∧rdCs (fun b => (A b ∨ w.heap.size ≤ b)∧b < w'.heap.size) w' us ys)
section
variable {P:Program} {cfg cfg':Cfg} {M:Nat→Prop} {ops:Array Oper} {s s':St} {w0:W0} {w w':World} {Ok:Nat→Prop} {N:Nat} {σ σ':Asg} {a:Act} {fs:List Fr} {Q:Exit→St→Prop} {T:Tab P} {H:List (Nat × Obj)}
theorem rdCs_vals {A:Nat→Prop}:∀ {ys:List D} {us:List Value},rdCs A w us ys→(∀ b,A b→b < w.heap.size→Zn σ H w b)→relCs σ H w (ys.map .val) us
 | [],us,h,_ => by obtain ⟨_,h⟩:=h;exact h
 | y :: ys,us,h,hA => by
  obtain ⟨v,us',rfl,h1,h2⟩:=h.cons_inv
  exact ⟨v,us',rfl,h1.one,h1.mono hA,rdCs_vals h2 hA⟩
theorem relOuts_vals {A M:Nat→Prop} {X:List Nat}:∀ {ys:List D} {us:List Value} {G Y:List Nat},yO A M w X (ys.map .val) us G Y→rdCs (fun b => A b ∨ M b) w us ys
 | [],us,_,_,h => by rw [h.1];exact rdCs.nil
 | y :: ys,us,G,Y,⟨v,us',G1,G2,Y1,Y2,e1,e2,e3,ho,h1,h2⟩ => by
  subst e1
  exact .cons (h1.1.mono (fun b hb _ => hb.1)) (relOuts_vals h2)
theorem start_simH {hd:HidC} {A:Nat→Prop} {N:Nat} {ds:List (List D)} {vs:List Value} {n:Nat} (hA:∀ b,A b→b < w.heap.size) (hY:∀ b,hd.Y b→b < w.heap.size∧¬ A b) (hI:hd.I A w) (hv:jX A w ds vs) (hn:vs.length + n = N) :
  Sim (@W0.mk w (fun _ => False) hd) A N ⟨fun _ => none,fun _ => 0,fun _ => [],fun b => A b ∨ w.heap.size ≤ b⟩ ⟨qU 0 ds,[]⟩ { tmps:=vs.toArray ++ Array.replicate n undef,defers:=[] } w:=by
 have h:=start_sim hv hn
 refine ⟨⟨rfl,rfl,rfl,Nat.le_refl _,fun _ _ _ _ => rfl⟩,h.ok1,h.ok2,h.defers,h.size,h.regs,h.rows,h.disj,hd.law hI (fun b hb => ⟨⟨hA b hb,.inl hb,fun q o hq => nomatch hq⟩,rfl⟩) (fun _ _ => rfl),fun b hb => ⟨?_,?_⟩⟩
 ·rintro (h1|h1)
  ·have:=(hY b hb).1
   have h1:w.heap.size ≤ b:=h1
   omega
  ·exact h1
 ·rintro (h1|h1)
  ·exact (hY b hb).2 h1
  ·have:=(hY b hb).1
   omega
theorem AFnH.of_runs (C:CfgOK P cfg) {f:FuncId} {fn:Func} {c:Code} (hf:P.funcs[f]? = some fn) (hb:fn.body = some c) (hname:(fn.name == "runtime.NumGoroutine") = false) (hN:fn.ntmps = cfg.N) {ds:List (List D)} (hd:ds.length ≤ fn.ntmps) {ys:List D}
  (h:∀ M,qA P cfg M c (Ends cfg M fn (· = ys.map .val)) ⟨qU 0 ds,[]⟩):AFnH cfg.hd P f ds ys:=by
 refine ⟨enters_of hf hname hb,fun A w vs hA hY hI hv => ?_⟩
 have hlen:=hv.len
 refine calls_of_wp hf hb ?_
 have hS:=start_simH (A:=A) (N:=cfg.N) (n:=fn.ntmps - vs.length) hA hY hI hv (by omega)
 refine h _ (@W0.mk w (fun _ => False) cfg.hd) A _ _ w _ ⟨rfl,rfl⟩ (by simpa using hS) (fun e s' hE σ' a' w' hS' => ?_)
 obtain ⟨he,hd,v,hres,rs,rfl,hbel,us,G,X,rfl,_,_,hout⟩:=ends_post C hS' hE
 have hfin:a'.defers = []∧∃ v,(results fn a'.tmps).run P w' = .ok v w'∧∃ us,Ending.returned v = .returned (outV us)∧Bel (@W0.mk w (fun _ => False) cfg.hd) w'∧cfg.hd.I (fun b => (A b ∨ w.heap.size ≤ b)∧b < w'.heap.size) w'∧rdCs (fun b => (A b ∨ w.heap.size ≤ b)∧b < w'.heap.size) w' us ys:=by
  refine ⟨hd,_,hres,us,rfl,hbel,?_,?_⟩
  ·refine cfg.hd.law hS'.inv (fun b hb => ⟨⟨?_,hb.1⟩,rfl⟩) (fun _ _ => rfl)
   rcases hS'.ok2 b hb.2.1 with h1|h1|h1
   ·exact .inl h1
   ·exact .inr h1
   ·exact h1.elim
  ·refine (relOuts_vals hout).mono (fun b hb hl => ⟨?_,hl⟩)
   rcases hb with h1|h1|h1
   ·exact .inl h1
   ·exact .inr h1
   ·exact h1.elim
 rcases he with rfl|rfl <;> exact hfin
theorem Sim.calledH (h:Sim w0 Ok N σ s a w) (hb:Bel (@W0.mk w (fun _ => False) w0.hd) w') (hI:w0.hd.I (fun b => (Zn σ s.heap w b ∨ w.heap.size ≤ b)∧b < w'.heap.size) w') :
  Sim w0 Ok N σ s a w'∧∀ b,(Zn σ s.heap w b ∨ w.heap.size ≤ b)→b < w'.heap.size→Zn σ s.heap w' b:=by
 have hblk:∀ b,b < w.heap.size→¬ w0.hd.Y b→w'.heap[b]? = w.heap[b]?:=fun b hl hn => hb.block b hl (fun e => e) hn
 have hZ:jQ σ σ s.heap s.heap w w':=fun b hz => ⟨⟨Nat.lt_of_lt_of_le hz.1 hb.size,hz.2⟩,hblk b hz.1 (fun hy => (h.hid b hy).2 hz.2.1)⟩
 have hnew:∀ b,(Zn σ s.heap w b ∨ w.heap.size ≤ b)→b < w'.heap.size→Zn σ s.heap w' b:=by
  rintro b (hz|hz) hl
  ·exact ⟨hl,hz.2⟩
  ·refine ⟨hl,h.ok1 b (.inl (Nat.le_trans h.below.size hz)),fun q u hq e => ?_⟩
   have:=yG h hq b (qI e)
   omega
 refine ⟨⟨h.below.trans3 hb (fun b hx => hx.elim),h.ok1,h.ok2,h.defers,h.size,fun r av hr => (h.regs r av hr).step hZ (fun k _ => jY.same σ s.heap k),fun key o hk => ?_,h.disj,?_,h.hid⟩,hnew⟩
 ·refine RowOK.keep h.ok1 h.rows h.disj hk hZ (fun k _ => jY.same σ s.heap k) rfl rfl rfl (fun b hg => ?_)
  exact hblk b (yG h hk b (qI hg)) (fun hy => (h.hid b hy).1 ((h.rows key o hk).fresh b (qI hg)))
 ·exact w0.hd.law hI (fun b hb => ⟨hnew b hb.1 hb.2,rfl⟩) (fun _ _ => rfl)
theorem n_callH (C:CfgOK P cfg) (h:Sim w0 Ok N σ s a w) {o:Oper} {f:Operand} {args:Array Operand} {ts:Array TypeId} {g:FuncId} (ho:o.op = .call ⟨.value f,args,ts⟩) (hf:((opv s.regs f).bind avD).bind fnId = some g)
  {ds:List (List D)} (hd:aargs cfg (fun k => look k s.heap) s.regs args.toList ts.toList = some ds) (hs:qM s.regs args.toList = []) {ys:List D} (hfn:AFnH w0.hd P g ds ys)
  {K:Act→World→Prop} {Q:Exit→Act→World→Prop} (hK:∀ v w',relAV σ s.heap w' (outAV (ys.map .val)) v→Sim w0 Ok N σ s a w'→K (a.put o.dst v) w'):o.wp P a w K Q:=by
 obtain ⟨_,l2⟩:=vQ C h hd
 have hfv:a.eval f = .func (.func g) #[] #[]:=qA0 h hf
 have hrun:(execOp a.eval o).run P w = .ok (.enter g (args.map a.eval)) w:=by
  unfold execOp
  rw [ho]
  simp [resolve,Deferred.ofValue,hfv,invoke,hfn.call]
 have hcall:=hfn.fn (Zn σ s.heap w) w (args.toList.map a.eval) (fun _ h => h.1) (fun b hb => ⟨(h.oldY hb).1,fun hz => (h.hid b hb).2 hz.2.1⟩) h.inv (l2 hs)
 unfold Oper.wp
 rw [hrun,Oper.upon_enter]
 have e:(args.toList.map a.eval).toArray = args.map a.eval:=by rw [← Array.toList_map,Array.toArray_toList]
 rw [← e]
 refine hcall.mono ?_
 rintro e w' ⟨us,rfl,hB,hI,hrd⟩
 obtain ⟨h1,h2⟩:=h.calledH hB hI
 exact hK _ w' (out_rel (rdCs_vals hrd (fun b hb _ => h2 b hb.1 hb.2))) h1
theorem acall_wpH (C:CfgOK P cfg) (hS:Sim w0 Ok cfg.N σ s a w) (hhd:w0.hd = cfg.hd) {o:Oper} {d:Nat} {g:FuncId} {ds:List (List D)} (ha:acall cfg ops o s = some (d,g,ds,true))
  {ys:List D} (hf:AFnH cfg.hd P g ds ys) {K:Act→World→Prop} {Q:Exit→Act→World→Prop}
  (h:After w0 Ok cfg.N ⟨insR d (outAV (ys.map .val)) s.regs,s.heap⟩ K):if Region.wanted o (yielded ops a.tmps) = true then o.wp P a w K Q else K (a.put o.dst undef) w:=by
 unfold acall at ha
 split at ha
 ·rename_i hc
  rw [xX hS hc.1]
  simp only [if_true]
  split at ha
  ·rename_i f args ts d' h1 h2
   obtain ⟨g',hg,ha⟩:=bind_some ha
   obtain ⟨ds',hd,e⟩:=map_some ha
   simp only [Prod.mk.injEq] at e
   obtain ⟨rfl,rfl,rfl,e4⟩:=e
   have hdN:d' < cfg.N:=by have:=hc.2;rw [dstOK,h2] at this;simpa using this
   refine n_callH C hS h1 hg hd (List.isEmpty_iff.1 e4) (by rw [hhd];exact hf) (fun v w' hv hS' => ?_)
   rw [h2]
   exact h σ _ _ (Sim.ins hS' hdN hv)
  ·cases ha
 ·cases ha
theorem qW.callH (C:CfgOK P cfg) {o:Oper} {l:List Oper} {Q:St→Prop} {d:Nat} {g:FuncId} {ds:List (List D)} (ha:acall cfg ops o s = some (d,g,ds,true)) {ys:List D} (hf:AFnH cfg.hd P g ds ys)
  (h:qW P cfg M ops l Q ⟨insR d (outAV (ys.map .val)) s.regs,s.heap⟩):qW P cfg M ops (o :: l) Q s:=by
 intro w0 Ok σ a w Q' hM hS hQ
 refine wpList_step (fun K hK => ?_)
 exact acall_wpH C hS hM.2 ha hf (fun σ' a' w' hS' => hK _ _ (h w0 Ok σ' a' w' Q' hM hS' hQ))
theorem jO.callH (C:CfgOK P cfg) {i:Nat} {o:Oper} (hi:ops[i]? = some o) {d:Nat} {g:FuncId} {ds:List (List D)} (ha:acall cfg ops o s = some (d,g,ds,true)) {ys:List D} (hf:AFnH cfg.hd P g ds ys) :
  jO P cfg ops i s ⟨⟨d,outAV (ys.map .val),[]⟩,qM s.regs o.op.operands.toList⟩:=by
 have ha0:=ha
 unfold acall at ha
 split at ha
 ·rename_i hc
  split at ha
  ·rename_i f args ts d' h1 h2
   obtain ⟨g',hg,ha⟩:=bind_some ha
   obtain ⟨ds',hd,e⟩:=map_some ha
   simp only [Prod.mk.injEq] at e
   obtain ⟨rfl,rfl,rfl,e4⟩:=e
   refine ⟨o,hi,h2,fun s' k1 k2 k3 w0 Ok σ a w K Q hhd hS hK => ?_⟩
   have hop:o.op.operands.toList = f :: args.toList:=by rw [h1];simp [Op.operands,Call.operands]
   have hag:=agree_of (xs:=o.op.operands.toList) (fun x hx => hx) k1 k2
   rw [hop] at hag
   have hst:acall cfg ops o s' = some (d',g',ds',true):=by
    unfold acall
    rw [qW0 k1,if_pos hc]
    simp only [h1,h2]
    rw [hag.one (by simp),jA0 (hag.sub (fun x hx => by simp [hx])),opRefs_congr (hag.sub (fun x hx => by simp [hx])),hg]
    simp only [Option.bind_some,hd,Option.map_some,e4]
   have:=acall_wpH C hS hhd hst hf (K:=K) (Q:=Q) hK
   unfold wpOp
   simp only [hi]
   split
   ·rename_i hw2;rw [if_pos hw2] at this;exact .inl this
   ·rename_i hw2;rw [if_neg hw2] at this;exact this
  ·cases ha
 ·cases ha
theorem Tr.append {t1 t2:List Tel}:∀ {i:Nat} {s:St},Tr P cfg ops i s t1→Tr P cfg ops (i + t1.length) (t1.foldl (fun s t => s.add t.e) s) t2→Tr P cfg ops i s (t1 ++ t2):=by
 induction t1 with
 | nil => intro i s _ h;exact h
 | cons t t1 ih =>
  intro i s h1 h2
  refine ⟨h1.1,ih h1.2 ?_⟩
  rw [show i + 1 + t1.length = i + (t :: t1).length by rw [List.length_cons];omega]
  exact h2
theorem drunT_pre (C:CfgOK P cfg):∀ {l:List Oper} {i:Nat} {s:St},(∀ j o,l[j]? = some o→ops[i + j]? = some o)→Tr P cfg ops i s (drunT cfg T ops l s).1 ∧
  (drunT cfg T ops l s).2.1 = (drunT cfg T ops l s).1.foldl (fun s t => s.add t.e) s∧(drunT cfg T ops l s).2.2 = l.drop (drunT cfg T ops l s).1.length
 | [],i,s,_ => ⟨trivial,rfl,rfl⟩
 | o :: l,i,s,hl => by
  have hi:ops[i]? = some o:=by have:=hl 0 o rfl;simpa using this
  simp only [drunT]
  cases hd:devalT cfg T ops o s with
  | none => exact ⟨trivial,rfl,rfl⟩
  | some t =>
   obtain ⟨h1,h2,h3⟩:=drunT_pre C (l:=l) (i:=i + 1) (s:=s.add t.e) (fun j o' ho' => by have:=hl (j + 1) o' ho';simpa [Nat.add_assoc,Nat.add_comm 1 j] using this)
   exact ⟨⟨jO.opT C hi hd,h1⟩,by simpa using h2,by simpa using h3⟩
theorem qJ.regDH (C:CfgOK P cfg) (T:Tab P) (hm:P.follows .mixedOrders = true) {id:Nat} (n:Nat) {tr1 tr2:List Tel} {s1 s2:St} {o:Oper} {rest:List Oper} (h1:drunT cfg T ops (ops.toList.take n) s = (tr1,s1,[])) (hl:tr1.length = n)
  (ho:ops[n]? = some o) {d:Nat} {g:FuncId} {ds:List (List D)} (ha:acall cfg ops o s1 = some (d,g,ds,true)) {ys:List D} (hf:AFnH cfg.hd P g ds ys)
  (h2:drunT cfg T ops (ops.toList.drop (n + 1)) ⟨insR d (outAV (ys.map .val)) s1.regs,s1.heap⟩ = (tr2,s2,rest))
  (hc:chk ops ((tr1 ++ ⟨⟨d,outAV (ys.map .val),[]⟩,qM s1.regs o.op.operands.toList⟩ :: tr2).map Tel.sh) = true) (hfr:(tr1 ++ tr2).all (fun t => t.e.news.all fun p => Go.Proofs.YtedgfkpfhonlpaaGreat.fresh s p.1) = true)
  (h3:aopsT cfg T ops rest s2 = some s') (h:outK P cfg M fs Q .normal s'):qJ P cfg M (.region id ops true) fs Q s:=by
 obtain ⟨a1,a2,a3⟩:=drunT_pre (T:=T) C (ops:=ops) (l:=ops.toList.take n) (i:=0) (s:=s) (fun j o' ho' => by
  rw [List.getElem?_take] at ho'
  split at ho'
  ·simpa using ho'
  ·cases ho')
 obtain ⟨b1,b2,b3⟩:=drunT_pre (T:=T) C (ops:=ops) (l:=ops.toList.drop (n + 1)) (i:=n + 1) (s:=⟨insR d (outAV (ys.map .val)) s1.regs,s1.heap⟩) (fun j o' ho' => by
  rw [List.getElem?_drop] at ho'
  simpa using ho')
 rw [h1] at a1 a2 a3
 rw [h2] at b1 b2 b3
 simp only at a1 a2 a3 b1 b2 b3
 have hadd:s1.add ⟨d,outAV (ys.map .val),[]⟩ = ⟨insR d (outAV (ys.map .val)) s1.regs,s1.heap⟩:=rfl
 refine qA.draw hm (tr:=tr1 ++ ⟨⟨d,outAV (ys.map .val),[]⟩,qM s1.regs o.op.operands.toList⟩ :: tr2) ?_ hc ?_ ?_
 ·refine Tr.append a1 ?_
  rw [← a2,hl,Nat.zero_add]
  refine ⟨jO.callH C ho ha hf,?_⟩
  rw [hadd]
  exact b1
 ·rw [List.all_eq_true] at hfr ⊢
  intro t ht
  rcases List.mem_append.1 ht with ht|ht
  ·exact hfr t (List.mem_append_left _ ht)
  ·rcases List.mem_cons.1 ht with rfl|ht
   ·rfl
   ·exact hfr t (List.mem_append_right _ ht)
 ·rw [List.foldl_append,← a2,List.foldl_cons,hadd,← b2]
  have e:ops.toList.drop (tr1 ++ ⟨⟨d,outAV (ys.map .val),[]⟩,qM s1.regs o.op.operands.toList⟩ :: tr2).length = rest:=by
   rw [b3,List.drop_drop,List.length_append,List.length_cons,hl]
   congr 1
   omega
  rw [e]
  exact qW.opsT C h3 h
end
end
section
def mapI (K:Value→D→Prop) (S:Value→Prop) (r:Nat) (A:Nat→Prop) (w:World):Prop :=
 ∃ es clock,w.heap[r]? = some (Go.Obj.map es clock)∧(∀ e ∈ es.toList,∃ k y,e.key = .string k∧K e.key y∧rdV A w e.val y)∧∀ k,S k→∃ e ∈ es.toList,e.key = k
@[reducible] def hidM (K:Value→D→Prop) (S:Value→Prop) (r:Nat):HidC :=
 ⟨fun b => b = r,mapI K S r,fun h hA hY => by
  obtain ⟨es,clock,h1,h2,h3⟩:=h
  refine ⟨es,clock,by rw [hY r rfl];exact h1,fun e he => ?_,h3⟩
  obtain ⟨k,y,k1,k2,k3⟩:=h2 e he
  exact ⟨k,y,k1,k2,(k3.frame (fun b hb _ => (hA b hb).2)).mono (fun b hb _ => (hA b hb).1)⟩⟩
section
variable {P:Program} {K:Value→D→Prop} {S:Value→Prop} {r:Nat} {A:Nat→Prop} {w w':World} {t kt et:TypeId}
theorem keys_of {es:Array MapEntry} (h:∀ e ∈ es.toList,∃ k y,e.key = .string k∧K e.key y∧rdV A w e.val y):∀ e ∈ es.toList,MapKept.IsKey .string e.key:=fun e he => by
 obtain ⟨k,y,h1,_⟩:=h e he
 rw [h1];trivial
theorem run_lookupM (ht:P.underlying t = some (.map kt et)) (hk:P.underlying kt = some .string) (hz:(P.info? et).bind (·.zero) = some (.slice none 0 0)) (h:mapI K S r A w) (k:ByteArray) (c:Bool) :
  (∃ v y,K (.string k) y∧rdV A w v y∧(Instr.lookup t (.map (some r)) (.string k) c).run P w = .ok (if c then .tuple #[v,.bool true] else v) w) ∨
  (¬ S (.string k)∧(Instr.lookup t (.map (some r)) (.string k) c).run P w = .ok (if c then .tuple #[.slice none 0 0,.bool false] else .slice none 0 0) w):=by
 obtain ⟨es,clock,h1,h2,h3⟩:=h
 rcases MapKept.findNow_spec (d:=.string) (k:=.string k) trivial es.toList 0 (keys_of h2) with ⟨f1,f2⟩|⟨j,e,f1,f2,f3⟩
 ·right
  refine ⟨fun hS => ?_,?_⟩
  ·obtain ⟨e,he,hek⟩:=h3 _ hS
   exact f2 e he hek
  ·obtain ⟨ti,hti,hzz⟩:=bind_some hz
   simp [Instr.lookup,run_underlying ht,MapKept.run_getObj_map h1,MapKept.run_checkKey (d:=.string) (k:=.string k) hk trivial,MapKept.run_findKey hk f1,Result.andThen,zeroValue,typeInfo,hti,hzz]
 ·left
  have he:e ∈ es.toList:=List.mem_of_getElem? f2
  obtain ⟨k',y,_,k2,k3⟩:=h2 e he
  refine ⟨e.val,y,by rw [← f3];exact k2,k3,?_⟩
  simp [Instr.lookup,run_underlying ht,MapKept.run_getObj_map h1,MapKept.run_checkKey (d:=.string) (k:=.string k) hk trivial,MapKept.run_findKey hk f1,Result.andThen]
theorem run_updateM (ht:P.underlying t = some (.map kt et)) (hk:P.underlying kt = some .string) (hA:∀ b,A b→b ≠ r) (h:mapI K S r A w) (k:ByteArray) {v:Value} {y:D} (hK:K (.string k) y) (hv:rdV A w v y) :
  ∃ w',(Instr.mapUpdate t (.map (some r)) (.string k) v).run P w = .ok () w'∧w'.os = w.os∧w'.tape = w.tape∧w'.output = w.output∧w'.heap.size = w.heap.size∧(∀ b,b ≠ r→w'.heap[b]? = w.heap[b]?)∧mapI K (fun q => S q ∨ q = .string k) r A w':=by
 obtain ⟨es,clock,h1,h2,h3⟩:=h
 have fr:∀ {v:Value} {y:D} {o':Go.Obj},rdV A w v y→rdV A { w with heap:=w.heap.setIfInBounds r o' } v y:=fun hv => hv.frame (fun b hb _ => (MapKept.heap_set h1).2 b (hA b hb))
 rcases MapKept.findNow_spec (d:=.string) (k:=.string k) trivial es.toList 0 (keys_of h2) with ⟨f1,f2⟩|⟨j,e,f1,f2,f3⟩
 ·have hrun:(Instr.mapUpdate t (.map (some r)) (.string k) v).run P w = .ok () { w with heap:=w.heap.setIfInBounds r (.map (es.push { key:=.string k,val:=v,born:=clock }) (clock + 1)) }:=by
   simp [Instr.mapUpdate,run_underlying ht,MapKept.run_getObj_map h1,MapKept.run_checkKey (d:=.string) (k:=.string k) hk trivial,MapKept.run_findKey hk f1,MapKept.run_setObj_map _ h1,Result.andThen]
  refine ⟨_,hrun,rfl,rfl,rfl,by simp,fun b hb => (MapKept.heap_set h1).2 b hb,?_⟩
  refine ⟨_,_,(MapKept.heap_set h1).1,fun e he => ?_,fun q hq => ?_⟩
  ·simp only [Array.toList_push,List.mem_append,List.mem_singleton] at he
   rcases he with he|rfl
   ·obtain ⟨k',y',a1,a2,a3⟩:=h2 e he
    exact ⟨k',y',a1,a2,fr a3⟩
   ·exact ⟨k,y,rfl,hK,fr hv⟩
  ·simp only [Array.toList_push,List.mem_append,List.mem_singleton]
   rcases hq with hq|rfl
   ·obtain ⟨e,he,hek⟩:=h3 q hq
    exact ⟨e,.inl he,hek⟩
   ·exact ⟨_,.inr rfl,rfl⟩
 ·have hj:es[j]? = some e:=by simpa using f2
  have hrun:(Instr.mapUpdate t (.map (some r)) (.string k) v).run P w = .ok () { w with heap:=w.heap.setIfInBounds r (.map (es.modify j fun e => { e with key:=.string k,val:=v }) clock) }:=by
   simp [Instr.mapUpdate,run_underlying ht,MapKept.run_getObj_map h1,MapKept.run_checkKey (d:=.string) (k:=.string k) hk trivial,MapKept.run_findKey hk f1,hj,f3,MapKept.run_keyThatStays (d:=.string) (k:=.string k) trivial,MapKept.run_setObj_map _ h1,Result.andThen]
  refine ⟨_,hrun,rfl,rfl,rfl,by simp,fun b hb => (MapKept.heap_set h1).2 b hb,?_⟩
  have hkeys:=MapKept.modify_keys (es:=es) j (fun e => { e with key:=.string k,val:=v }) (fun e' he' => by rw [hj] at he';cases he';exact f3.symm)
  refine ⟨_,_,(MapKept.heap_set h1).1,fun e' he' => ?_,fun q hq => ?_⟩
  ·obtain ⟨i,hi⟩:=List.getElem?_of_mem he'
   rw [Array.getElem?_toList,Array.getElem?_modify] at hi
   split at hi
   ·rename_i hij
    subst hij
    rw [hj] at hi
    cases hi
    exact ⟨k,y,rfl,hK,fr hv⟩
   ·have hm:e' ∈ es.toList:=List.mem_of_getElem? (by rw [Array.getElem?_toList];exact hi)
    obtain ⟨k',y',a1,a2,a3⟩:=h2 e' hm
    exact ⟨k',y',a1,a2,fr a3⟩
  ·have hq':q ∈ es.toList.map (·.key):=by
    rcases hq with hq|rfl
    ·obtain ⟨e1,he1,hek⟩:=h3 q hq
     exact List.mem_map.2 ⟨e1,he1,hek⟩
    ·exact List.mem_map.2 ⟨e,List.mem_of_getElem? f2,f3⟩
   rw [← hkeys] at hq'
   obtain ⟨e1,he1,hek⟩:=List.mem_map.1 hq'
   exact ⟨e1,he1,hek⟩
end
section
variable {P:Program} {cfg cfg':Cfg} {M:Nat→Prop} {ops:Array Oper} {s s1 s2 s':St} {w0:W0} {w w':World} {Ok:Nat→Prop} {N:Nat} {σ σ':Asg} {a:Act} {fs:List Fr} {Q:Exit→St→Prop} {T:Tab P} {H:List (Nat × Obj)}
 {K:Value→D→Prop} {S:Value→Prop} {r:Nat} {t kt et:TypeId}
theorem rawH_at (hS:Sim w0 Ok N σ s a w) {x:Operand} {u:Value} (hx:opv s.regs x = some (.c (.val (.raw u)))):a.eval x = u:=(yJ.1 (qP hS hx).2).1
theorem qW.lookup2 {o:Oper} {l:List Oper} {Q:St→Prop} {x y:Operand} {d:Nat} {k:ByteArray} (ht:P.underlying t = some (.map kt et)) (hk:P.underlying kt = some .string) (hz:(P.info? et).bind (·.zero) = some (.slice none 0 0)) (hhd:cfg.hd = hidM K S r)
  (ho:o.op = .lookup t x y true) (hw:qN ops s.regs o = some true) (hd:o.dst = some d) (hdN:d < cfg.N) (hx:opv s.regs x = some (.c (.val (.raw (.map (some r)))))) (hy:opv s.regs y = some (.c (.val (.raw (.string k)))))
  (h1:∀ z,K (.string k) z→qW P cfg M ops l Q ⟨insR d (.tup [.val z,.val (.bool true)]) s.regs,s.heap⟩) (h2:¬ S (.string k)→qW P cfg M ops l Q ⟨insR d (.tup [.nil,.val (.bool false)]) s.regs,s.heap⟩):qW P cfg M ops (o :: l) Q s:=by
 intro w0 Ok σ a w Q' hM hS hQ
 refine wpList_step (fun K' hK => ?_)
 rw [xX hS hw]
 simp only [if_true]
 have hI:mapI K S r (Zn σ s.heap w) w:=by have:=hS.inv;rw [hM.2,hhd] at this;exact this
 have e1:=rawH_at hS hx
 have e2:=rawH_at hS hy
 unfold Oper.wp
 rcases run_lookupM ht hk hz hI k true with ⟨v,z,hKz,hv,hrun⟩|⟨hnS,hrun⟩
 ·have hr:(execOp a.eval o).run P w = .ok (.value (.tuple #[v,.bool true])) w:=by
   unfold execOp
   rw [ho]
   simp only [e1,e2]
   simp [hrun,Result.andThen]
  rw [hr]
  show K' (a.put o.dst _) _
  rw [hd]
  exact hK _ _ (h1 z hKz w0 Ok σ _ _ Q' hM (Sim.ins hS hdN ⟨[v,.bool true],rfl,v,_,rfl,hv.one,hv,.bool true,[],rfl,rfl,jN.2 rfl,rfl⟩) hQ)
 ·have hr:(execOp a.eval o).run P w = .ok (.value (.tuple #[.slice none 0 0,.bool false])) w:=by
   unfold execOp
   rw [ho]
   simp only [e1,e2]
   simp [hrun,Result.andThen]
  rw [hr]
  show K' (a.put o.dst _) _
  rw [hd]
  exact hK _ _ (h2 hnS w0 Ok σ _ _ Q' hM (Sim.ins hS hdN ⟨[.slice none 0 0,.bool false],rfl,_,_,rfl,rfl,rfl,.bool false,[],rfl,rfl,jN.2 rfl,rfl⟩) hQ)
theorem qW.lookup1 {o:Oper} {l:List Oper} {Q:St→Prop} {x y:Operand} {d:Nat} {k:ByteArray} (ht:P.underlying t = some (.map kt et)) (hk:P.underlying kt = some .string) (hz:(P.info? et).bind (·.zero) = some (.slice none 0 0)) (hhd:cfg.hd = hidM K S r) (hin:S (.string k))
  (ho:o.op = .lookup t x y false) (hw:qN ops s.regs o = some true) (hd:o.dst = some d) (hdN:d < cfg.N) (hx:opv s.regs x = some (.c (.val (.raw (.map (some r)))))) (hy:opv s.regs y = some (.c (.val (.raw (.string k)))))
  (h1:∀ z,K (.string k) z→qW P cfg M ops l Q ⟨insR d (.c (.val z)) s.regs,s.heap⟩):qW P cfg M ops (o :: l) Q s:=by
 intro w0 Ok σ a w Q' hM hS hQ
 refine wpList_step (fun K' hK => ?_)
 rw [xX hS hw]
 simp only [if_true]
 have hI:mapI K S r (Zn σ s.heap w) w:=by have:=hS.inv;rw [hM.2,hhd] at this;exact this
 have e1:=rawH_at hS hx
 have e2:=rawH_at hS hy
 unfold Oper.wp
 rcases run_lookupM ht hk hz hI k false with ⟨v,z,hKz,hv,hrun⟩|⟨hnS,hrun⟩
 ·have hr:(execOp a.eval o).run P w = .ok (.value v) w:=by
   unfold execOp
   rw [ho]
   simp only [e1,e2]
   simp [hrun,Result.andThen]
  rw [hr]
  show K' (a.put o.dst _) _
  rw [hd]
  exact hK _ _ (h1 z hKz w0 Ok σ _ _ Q' hM (Sim.ins hS hdN ⟨hv.one,hv⟩) hQ)
 ·exact absurd hin hnS
theorem Sim.rehid {hd':HidC} (h:Sim w0 Ok N σ s a w) (hY:∀ b,hd'.Y b ↔ w0.hd.Y b) (hb:Bel w0 w') (hI:hd'.I (Zn σ s.heap w) w') (hblk:∀ b,¬ w0.hd.Y b→w'.heap[b]? = w.heap[b]?) (hsz:w'.heap.size = w.heap.size):Sim (@W0.mk w0.w w0.X hd') Ok N σ s a w':=by
 have hZ:jQ σ σ s.heap s.heap w w':=fun b hz => ⟨⟨by rw [hsz];exact hz.1,hz.2⟩,hblk b (fun hy => (h.hid b hy).2 hz.2.1)⟩
 refine ⟨⟨hb.os,hb.tape,hb.output,hb.size,fun k hk hx hy => hb.block k hk hx (fun e => hy ((hY k).2 e))⟩,h.ok1,h.ok2,h.defers,h.size,fun q av hr => (h.regs q av hr).step hZ (fun k _ => jY.same σ s.heap k),fun key o hk => ?_,h.disj,?_,fun b hb' => ?_⟩
 ·refine RowOK.keep h.ok1 h.rows h.disj hk hZ (fun k _ => jY.same σ s.heap k) rfl rfl rfl (fun b hg => ?_)
  exact hblk b (fun hy => (h.hid b hy).1 ((h.rows key o hk).fresh b (qI hg)))
 ·exact hd'.law hI (fun b hz => ⟨(hZ b hz).1,rfl⟩) (fun _ _ => rfl)
 ·exact h.hid b ((hY b).1 hb')
def onN (K:Act→World→Prop) (R:Exit→Act→World→Prop):Exit→Act→World→Prop
 | .normal => K
 | e => R e
theorem wp_onN {R:Exit→Act→World→Prop} {K0 K1 K2:Act→World→Prop} {o:Oper} (h:∀ a w,K1 a w→K2 a w) (hh:o.wp P a w K1 (onN K0 R)):o.wp P a w K2 R:=by
 unfold Oper.wp at *
 generalize (execOp a.eval o).run P w = r at *
 cases r with
 | ok n w' =>
  cases n <;> simp only [Oper.upon] at hh ⊢ <;>
   first
    | exact h _ _ hh
    | exact Calls.mono hh (fun e w'' he => by cases e <;> first|exact h _ _ he|exact he)
    | exact Rows.mono hh (fun _ _ he => h _ _ he)
 | halt x w' => cases x <;> simp only [Oper.upon] at hh ⊢ <;> exact hh
theorem yK0 {R:Exit→Act→World→Prop} {l2:List Oper}:∀ {l:List Oper} {a:Act} {w:World},wpList P ops (onN (wpList P ops R l2) R) l a w→wpList P ops R (l ++ l2) a w
 | [],a,w,h => h
 | o :: l,a,w,h => by
  rw [List.cons_append]
  unfold wpList at h ⊢
  split
  ·rename_i hw
   rw [if_pos hw] at h
   rcases h with h|h
   ·exact .inl (wp_onN (fun _ _ h => yK0 h) h)
   ·exact .inr h
  ·rename_i hw
   rw [if_neg hw] at h
   exact yK0 h
theorem qJ.update (C:CfgOK P cfg) (T:Tab P) {id:Nat} {d:Code} (n:Nat) (ks:List Nat) {o:Oper} {x y v:Operand} {k:ByteArray} {z:D} (hN:cfg'.N = cfg.N) (hhd:cfg.hd = hidM K S r) (hhd':cfg'.hd = hidM K (fun q => S q ∨ q = .string k) r)
  (ht:P.underlying t = some (.map kt et)) (hk:P.underlying kt = some .string) (ha:aopsT cfg T ops (ops.toList.take n) s = some s1) (hl:ops.toList.drop n = [o]) (ho:o.op = .mapUpdate t x y v) (hg:o.guard = none) (hdst:o.dst = none)
  (hx:opv (s1.frzs ks).regs x = some (.c (.val (.raw (.map (some r)))))) (hy:opv (s1.frzs ks).regs y = some (.c (.val (.raw (.string k))))) (hv:opv (s1.frzs ks).regs v = some (.c (.val z))) (hK:K (.string k) z)
  (h:qJ P cfg' M d [] (outK P cfg M fs Q) (s1.frzs ks)):qJ P cfg M (.seq (.region id ops false) d) fs Q s:=by
 intro w0 Ok σ a w Q' hM hS hQ
 have hops:ops.toList = ops.toList.take n ++ [o]:=by rw [← hl,List.take_append_drop]
 have key:∀ R:Exit→Act→World→Prop,(∀ a' w',d.wp P Q' a' w'→R .normal a' w')→(Code.region id ops false).wp P R a w:=by
  intro R hR
  refine wp_region_list ?_
  rw [hops]
  refine yK0 ?_
  refine qW.opsT (M:=M) (Q:=fun s' => s' = s1) C ha rfl w0 Ok σ a w _ hM hS (fun s' e σ1 a1 w1 hS1 => ?_)
  subst e
  have hS2:=Sim.frzs (ks:=ks) hS1
  show wpList P ops R [o] a1 w1
  refine wpList_step (fun K' hK' => ?_)
  have hw:qN ops s'.regs o = some true:=by unfold qN;rw [hg]
  rw [xX hS1 hw]
  simp only [if_true]
  have hw0:w0.hd = hidM K S r:=by rw [hM.2,hhd]
  have hI:mapI K S r (Zn σ1 (s'.frzs ks).heap w1) w1:=by have:=hS2.inv;rw [hw0] at this;exact this
  have hYr:∀ b,w0.hd.Y b ↔ b = r:=fun b => by rw [hw0];exact Iff.rfl
  have e1:=rawH_at hS2 hx
  have e2:=rawH_at hS2 hy
  have e3:rdV (Zn σ1 (s'.frzs ks).heap w1) w1 (a1.eval v) z:=(qP hS2 hv).2
  obtain ⟨w',hrun,h1,h2,h3,h4,h5,h6⟩:=run_updateM ht hk (fun b hb e => (hS2.hid b ((hYr b).2 e)).2 hb.2.1) hI k hK e3
  have hr:(execOp a1.eval o).run P w1 = .ok .skip w':=by
   unfold execOp
   rw [ho]
   simp only [e1,e2]
   simp [hrun,Result.andThen]
  unfold Oper.wp
  rw [hr]
  show K' (a1.put o.dst _) _
  rw [hdst]
  refine hK' _ _ (hR _ _ ?_)
  have hB:Bel w0 w':=⟨h1.trans hS2.below.os,h2.trans hS2.below.tape,h3.trans hS2.below.output,by rw [h4];exact hS2.below.size,fun q hq hx' hy' => (h5 q (fun e => hy' ((hYr q).2 e))).trans (hS2.below.block q hq hx' hy')⟩
  have hY':∀ b,cfg'.hd.Y b ↔ w0.hd.Y b:=fun b => by rw [hhd',hw0];exact Iff.rfl
  have hS3:=hS2.rehid (hd':=cfg'.hd) (w':=w') hY' hB (by rw [hhd'];exact h6) (fun b hb => h5 b (fun e => hb ((hYr b).2 e))) h4
  refine h (@W0.mk w0.w w0.X cfg'.hd) Ok σ1 _ w' Q' ⟨hM.1,rfl⟩ (by rw [hN];exact hS3) (fun e s2 hq σ4 a4 w4 hS4 => ?_)
  rw [hN] at hS4
  have hw0':w0 = @W0.mk w0.w w0.X w0.hd:=rfl
  have hS5:Sim w0 Ok cfg.N σ4 s2 a4 w4:=by
   refine ⟨⟨hS4.below.os,hS4.below.tape,hS4.below.output,hS4.below.size,fun q hq hx' hy' => hS4.below.block q hq hx' (fun e => hy' ?_)⟩,hS4.ok1,hS4.ok2,hS4.defers,hS4.size,hS4.regs,hS4.rows,hS4.disj,?_,fun b hb => hS4.hid b ?_⟩
   ·have e:cfg'.hd.Y q:=e
    rw [hhd'] at e
    exact (hYr q).2 e
   ·have hi:cfg'.hd.I (Zn σ4 s2.heap w4) w4:=hS4.inv
    rw [hhd'] at hi
    rw [hw0]
    obtain ⟨es,clock,k1,k2,k3⟩:=hi
    exact ⟨es,clock,k1,k2,fun q hq => k3 q (.inl hq)⟩
   ·show cfg'.hd.Y b
    rw [hhd']
    exact (hYr b).1 hb
  exact hQ e s2 hq σ4 a4 w4 hS5
 exact wp_seq (key _ (fun a' w' h => h))
theorem qJ.makeMap (C:CfgOK P cfg) (T:Tab P) {id:Nat} {d:Code} (n:Nat) {o:Oper} {l:List Oper} {dd:Nat} {cfg':Nat→Cfg} (C':∀ r,CfgOK P (cfg' r)) (hN:∀ r,(cfg' r).N = cfg.N) (hhd:cfg.hd = HidC.non) (hhd':∀ r,(cfg' r).hd = hidM K (fun _ => False) r)
  (ha:aopsT cfg T ops (ops.toList.take n) s = some s1) (hl:ops.toList.drop n = o :: l) (ho:o.op = .makeMap t none) (hg:o.guard = none) (hdst:o.dst = some dd) (hdd:dd < cfg.N)
  (h:∀ r (M':Nat→Prop),∃ s2,aopsT (cfg' r) T ops l ⟨insR dd (.c (.val (.raw (.map (some r))))) s1.regs,s1.heap⟩ = some s2∧qJ P (cfg' r) M' d [] (outK P cfg M fs Q) s2):qJ P cfg M (.seq (.region id ops false) d) fs Q s:=by
 intro w0 Ok σ a w Q' hM hS hQ
 have hops:ops.toList = ops.toList.take n ++ (o :: l):=by rw [← hl,List.take_append_drop]
 have key:∀ R:Exit→Act→World→Prop,(∀ a' w',d.wp P Q' a' w'→R .normal a' w')→(Code.region id ops false).wp P R a w:=by
  intro R hR
  refine wp_region_list ?_
  rw [hops]
  refine yK0 ?_
  refine qW.opsT (M:=M) (Q:=fun s' => s' = s1) C ha rfl w0 Ok σ a w _ hM hS (fun s' e σ1 a1 w1 hS1 => ?_)
  subst e
  show wpList P ops R (o :: l) a1 w1
  refine wpList_step (fun K' hK' => ?_)
  have hw:qN ops s'.regs o = some true:=by unfold qN;rw [hg]
  rw [xX hS1 hw]
  simp only [if_true]
  have hw0:w0.hd = HidC.non:=by rw [hM.2,hhd]
  have hr:(execOp a1.eval o).run P w1 = .ok (.value (.map (some w1.heap.size))) { w1 with heap:=w1.heap.push (.map #[] 0) }:=by
   unfold execOp
   rw [ho]
   simp [Instr.makeMap,Result.andThen]
  unfold Oper.wp
  rw [hr]
  show K' (a1.put o.dst _) _
  rw [hdst]
  refine hK' _ _ ?_
  obtain ⟨r,hrr⟩:∃ r,r = w1.heap.size:=⟨_,rfl⟩
  rw [← hrr]
  obtain ⟨w',hw'⟩:∃ w',w' = ({ w1 with heap:=w1.heap.push (.map #[] 0) }:World):=⟨_,rfl⟩
  rw [← hw']
  have hsz:w'.heap.size = r + 1:=by rw [hw',hrr];simp
  have hblk:∀ b,b < r→w'.heap[b]? = w1.heap[b]?:=fun b hb => by rw [hw'];simp [Array.getElem?_push,show b ≠ w1.heap.size by omega]
  have hnew:w'.heap[r]? = some (Go.Obj.map #[] 0):=by rw [hw',hrr];simp
  have hos:w'.os = w1.os∧w'.tape = w1.tape∧w'.output = w1.output:=by rw [hw'];exact ⟨rfl,rfl,rfl⟩
  have hge:w0.w.heap.size ≤ r:=by rw [hrr];exact hS1.below.size
  let w2:W0:=@W0.mk w' (fun b => w0.mine b∧b < r) (cfg' r).hd
  let σ2:Asg:=⟨σ1.g,σ1.cap,σ1.F,fun b => σ1.ok b∧b ≠ r⟩
  have hZ:jQ σ1 σ2 s'.heap s'.heap w1 w':=fun b hb => by
   have hb1:b < r:=by rw [hrr];exact hb.1
   exact ⟨⟨by rw [hsz];omega,⟨hb.2.1,by omega⟩,hb.2.2⟩,hblk b hb1⟩
  have hst:∀ k,jY σ1 σ2 s'.heap s'.heap k:=fun k o' ho' => ⟨o',ho',rfl,rfl,rfl,rfl⟩
  have hlt:∀ {k o' b},look k s'.heap = some o'→b ∈ fp σ1 k o'→b < r:=fun hk hb => by rw [hrr];exact yG hS1 hk _ hb
  have hS2:Sim w2 σ2.ok (cfg' r).N σ2 s' a1 w':=by
   rw [hN]
   refine ⟨⟨rfl,rfl,rfl,Nat.le_refl _,fun _ _ _ _ => rfl⟩,fun b hb => ?_,fun b hb => .inl hb,hS1.defers,hS1.size,fun q av hq => (hS1.regs q av hq).step hZ (fun k _ => hst k),fun k o' hk => ?_,hS1.disj,?_,fun b hb => ?_⟩
   ·rcases hb with hb|hb
    ·have hb:w'.heap.size ≤ b:=hb
     exact ⟨hS1.ok1 b (.inl (by omega)),by omega⟩
    ·exact ⟨hS1.ok1 b hb.1,by have:=hb.2;omega⟩
   ·have hr:=RowOK.keep (σ':=σ2) (H':=s'.heap) (w':=w') hS1.ok1 hS1.rows hS1.disj hk hZ (fun k _ => hst k) rfl rfl rfl (fun b hb => hblk b (hlt hk (qI hb)))
    exact ⟨hr.row,fun b hb => .inr ⟨hr.fresh b hb,hlt hk hb⟩,hr.nodup⟩
   ·show (cfg' r).hd.I _ _
    rw [hhd']
    exact ⟨#[],0,hnew,(fun e he => by simp at he),(fun k hk => hk.elim)⟩
   ·have hb:(cfg' r).hd.Y b:=hb
    rw [hhd'] at hb
    have hb:b = r:=hb
    subst hb
    refine ⟨?_,fun hb => hb.2 rfl⟩
    rintro (hb|hb)
    ·have hb:w'.heap.size ≤ b:=hb
     omega
    ·have:=hb.2;omega
  obtain ⟨s2,hs2,h⟩:=h r w2.mine
  have hS3:=Sim.ins (d:=dd) (v:=.map (some r)) (av:=.c (.val (.raw (.map (some r))))) hS2 (by rw [hN];exact hdd) ⟨rfl,yJ.2 ⟨rfl,rfl⟩⟩
  refine qW.opsT (M:=w2.mine) (Q:=fun s' => s' = s2) (C' r) hs2 rfl w2 _ σ2 _ w' _ ⟨rfl,rfl⟩ hS3 (fun s3 e σ3 a3 w3 hS4 => ?_)
  subst e
  refine hR _ _ ?_
  refine h w2 _ σ3 a3 w3 Q' ⟨rfl,rfl⟩ hS4 (fun e s4 hq σ4 a4 w4 hS5 => ?_)
  rw [hN] at hS5
  let σ5:Asg:=⟨σ4.g,σ4.cap,σ4.F,fun b => σ4.ok b ∨ w0.mine b⟩
  have hZ5:jQ σ4 σ5 s4.heap s4.heap w4 w4:=fun b hb => ⟨⟨hb.1,.inl hb.2.1,hb.2.2⟩,rfl⟩
  have hst5:∀ k,jY σ4 σ5 s4.heap s4.heap k:=fun k o' ho' => ⟨o',ho',rfl,rfl,rfl,rfl⟩
  have hmine:∀ b,w2.mine b→w0.mine b:=by
   rintro b (hb|hb)
   ·have hb:w'.heap.size ≤ b:=hb
    exact .inl (by omega)
   ·exact hb.1
  have hS6:Sim w0 Ok cfg.N σ5 s4 a4 w4:=by
   refine ⟨⟨?_,?_,?_,?_,fun q hq hx' hy' => ?_⟩,fun b hb => .inr hb,?_,hS5.defers,hS5.size,fun q av hq => (hS5.regs q av hq).step hZ5 (fun k _ => hst5 k),fun k o' hk => ?_,hS5.disj,?_,fun b hb => ?_⟩
   ·exact hS5.below.os.trans (hos.1.trans hS1.below.os)
   ·exact hS5.below.tape.trans (hos.2.1.trans hS1.below.tape)
   ·exact hS5.below.output.trans (hos.2.2.trans hS1.below.output)
   ·have h1:w'.heap.size ≤ w4.heap.size:=hS5.below.size
    omega
   ·have h1:=hS5.below.block q (by show q < w'.heap.size;omega) (fun e => by
     rcases e.1 with e1|e1
     ·omega
     ·exact hx' e1) (fun e => by
     have e:(cfg' r).hd.Y q:=e
     rw [hhd'] at e
     have e:q = r:=e
     omega)
    exact h1.trans ((hblk q (by omega)).trans (hS1.below.block q hq hx' hy'))
   ·rintro b (hb|hb)
    ·rcases hS5.ok2 b hb with h1|h1
     ·exact hS1.ok2 b h1.1
     ·exact .inr (hmine b h1)
    ·exact .inr hb
   ·have hr:=RowOK.keep (σ':=σ5) hS5.ok1 hS5.rows hS5.disj hk hZ5 (fun k _ => hst5 k) rfl rfl rfl (fun _ _ => rfl)
    exact ⟨hr.row,fun b hb => hmine b (hr.fresh b hb),hr.nodup⟩
   ·rw [hw0];trivial
   ·rw [hw0] at hb;exact hb.elim
  exact hQ e s4 hq σ5 a4 w4 hS6
 exact wp_seq (key _ (fun a' w' h => h))
end
end
section
structure Cmp {α:Type} (c:α→α→Int):Prop where
 zero:∀ a b,c a b = 0→a = b
 refl:∀ a,c a a = 0
 anti:∀ a b,c a b < 0 ↔ 0 < c b a
 trans:∀ a b d,c a b ≤ 0→c b d ≤ 0→c a d ≤ 0
section
variable {α:Type} {c:α→α→Int}
def ins (c:α→α→Int) (x:α):List α→List α
 | [] => [x]
 | y :: l => if c x y < 0 then x :: y :: l else y :: ins c x l
def sortC (c:α→α→Int) (l:List α):List α:=l.foldl (fun s x => ins c x s) []
theorem ins_perm (x:α):∀ l,(ins c x l).Perm (x :: l)
 | [] => .refl _
 | y :: l => by
  unfold ins
  split
  ·exact .refl _
  ·exact ((ins_perm x l).cons y).trans (List.Perm.swap x y l)
theorem ins_mem {x y:α} {l:List α}:y ∈ ins c x l ↔ y = x ∨ y ∈ l:=by
 rw [(ins_perm x l).mem_iff,List.mem_cons]
theorem Cmp.le_of_not_lt (h:Cmp c) {a b:α} (hn:¬ c a b < 0):c b a ≤ 0:=by
 rw [h.anti] at hn;omega
theorem ins_sorted (h:Cmp c) (x:α):∀ l:List α,l.Pairwise (fun a b => c a b ≤ 0)→(ins c x l).Pairwise (fun a b => c a b ≤ 0)
 | [],_ => by simp [ins]
 | y :: l,hl => by
  rw [List.pairwise_cons] at hl
  unfold ins
  split
  ·rename_i hlt
   refine List.pairwise_cons.2 ⟨fun z hz => ?_,List.pairwise_cons.2 hl⟩
   rcases List.mem_cons.1 hz with rfl|hz
   ·omega
   ·exact h.trans x y z (by omega) (hl.1 z hz)
  ·rename_i hn
   refine List.pairwise_cons.2 ⟨fun z hz => ?_,ins_sorted h x l hl.2⟩
   rcases ins_mem.1 hz with rfl|hz
   ·exact h.le_of_not_lt hn
   ·exact hl.1 z hz
theorem sortC_aux (l:List α):∀ s:List α,(l.foldl (fun s x => ins c x s) s).Perm (s ++ l):=by
 induction l with
 | nil => intro s;simp
 | cons x l ih =>
  intro s
  refine (ih _).trans ?_
  refine ((ins_perm x s).append_right l).trans ?_
  rw [List.cons_append]
  exact (List.perm_middle (l₁:=s) (a:=x) (l₂:=l)).symm
theorem jH (l:List α):(sortC c l).Perm l:=by simpa [sortC] using sortC_aux l []
theorem wN (l:List α):(sortC c l).length = l.length:=(jH l).length_eq
theorem kK (h:Cmp c) (l:List α):(sortC c l).Pairwise (fun a b => c a b ≤ 0):=by
 have:∀ s:List α,s.Pairwise (fun a b => c a b ≤ 0)→(l.foldl (fun s x => ins c x s) s).Pairwise (fun a b => c a b ≤ 0):=by
  induction l with
  | nil => intro s hs;exact hs
  | cons x l ih => intro s hs;exact ih _ (ins_sorted h x s hs)
 exact this [] List.Pairwise.nil
theorem xY0 (h:Cmp c):∀ {l m:List α},l.Perm m→l.Pairwise (fun a b => c a b ≤ 0)→m.Pairwise (fun a b => c a b ≤ 0)→l = m
 | [],m,hp,_,_ => hp.nil_eq
 | x :: l,[],hp,_,_ => by have:=hp.length_eq;simp at this
 | x :: l,y :: m,hp,hl,hm => by
  rw [List.pairwise_cons] at hl hm
  have hxy:x = y:=by
   have hy:y ∈ x :: l:=hp.mem_iff.2 (by simp)
   have hx:x ∈ y :: m:=hp.mem_iff.1 (by simp)
   rcases List.mem_cons.1 hy with e|hy
   ·exact e.symm
   ·rcases List.mem_cons.1 hx with e|hx
    ·exact e
    ·have h1:=hl.1 y hy
     have h2:=hm.1 x hx
     refine h.zero x y ?_
     have h3:=h.anti y x
     have h4:=h.anti x y
     omega
  subst hxy
  rw [xY0 h (List.Perm.cons_inv hp) hl.2 hm.2]
theorem xA0 (h:Cmp c) {l m:List α} (hp:m.Perm l) (hm:m.Pairwise (fun a b => c a b ≤ 0)):m = sortC c l :=
 xY0 h (hp.trans (jH l).symm) hm (kK h l)
theorem qN0 (h:Cmp c) {l m:List α} (hp:m.Perm l):sortC c m = sortC c l :=
 xY0 h ((jH m).trans (hp.trans (jH l).symm)) (kK h m) (kK h l)
theorem xZ0 (h:Cmp c) {l:List α} (hl:l.Pairwise (fun a b => c a b ≤ 0)):sortC c l = l:=(xA0 h (List.Perm.refl l) hl).symm
theorem yW {l:List α} {x:α}:x ∈ sortC c l ↔ x ∈ l:=(jH l).mem_iff
theorem sortC_snoc (l:List α) (x:α):sortC c (l ++ [x]) = ins c x (sortC c l):=by simp [sortC,List.foldl_append]
end
def cmpL:List Int→List Int→Int
 | [],[] => 0
 | [],_ :: _ => -1
 | _ :: _,[] => 1
 | a :: a2,b :: bs => if a < b then -1 else if b < a then 1 else cmpL a2 bs
theorem cmpL_range (a b:List Int):cmpL a b = -1 ∨ cmpL a b = 0 ∨ cmpL a b = 1:=by
 fun_induction cmpL a b <;> simp_all
theorem cmpL_neg (a b:List Int):cmpL b a = - cmpL a b:=by
 fun_induction cmpL a b with
 | case1 => rfl
 | case2 => rfl
 | case3 => rfl
 | case4 a a2 b bs h => simp [cmpL,h];omega
 | case5 a a2 b bs h1 h2 => simp [cmpL,h2]
 | case6 a a2 b bs h1 h2 ih => simp [cmpL,h1,h2,ih]
theorem cmpL_zero (a b:List Int):cmpL a b = 0→a = b:=by
 fun_induction cmpL a b with
 | case1 => simp
 | case2 => simp
 | case3 => simp
 | case4 => simp
 | case5 => simp
 | case6 a a2 b bs h1 h2 ih => intro h;rw [ih h];congr 1;omega
theorem cmpL_refl (a:List Int):cmpL a a = 0:=by
 induction a with
 | nil => rfl
 | cons a a2 ih => simp [cmpL,ih]
theorem cmpL_trans:∀ a b d:List Int,cmpL a b ≤ 0→cmpL b d ≤ 0→cmpL a d ≤ 0
 | [],[],_,_,h => h
 | [],_ :: _,[],_,h => by simp [cmpL] at h
 | [],_ :: _,_ :: _,_,_ => by simp [cmpL]
 | _ :: _,[],_,h,_ => by simp [cmpL] at h
 | _ :: _,_ :: _,[],_,h => by simp [cmpL] at h
 | a :: a2,b :: bs,d :: ds,h1,h2 => by
  simp only [cmpL] at h1 h2 ⊢
  split at h1
  ·split at h2
   ·rw [if_pos (by omega)];decide
   ·split at h2
    ·omega
    ·rw [if_pos (by omega)];decide
  ·split at h1
   ·omega
   ·split at h2
    ·rw [if_pos (by omega)];decide
    ·split at h2
     ·omega
     ·rw [if_neg (by omega),if_neg (by omega)];exact cmpL_trans a2 bs ds h1 h2
def cmpD (a b:List Int):Int:=cmpL b a
theorem cmpD_cmp:Cmp cmpD where
 zero a b h:=(cmpL_zero b a h).symm
 refl:=cmpL_refl
 anti a b:=by unfold cmpD;rw [cmpL_neg a b];omega
 trans a b d h1 h2:=cmpL_trans d b a h2 h1
def cmpT (s t:List Int):Int:=if s.length = t.length then cmpL t s else (s.length:Int) - t.length
theorem yF:Cmp cmpT where
 zero a b h:=by
  unfold cmpT at h
  split at h
  ·exact (cmpL_zero b a h).symm
  ·omega
 refl a:=by simp [cmpT,cmpL_refl]
 anti a b:=by
  unfold cmpT
  by_cases h:a.length = b.length
  ·rw [if_pos h,if_pos h.symm,cmpL_neg a b];omega
  ·rw [if_neg h,if_neg (fun e => h e.symm)];omega
 trans a b d h1 h2:=by
  unfold cmpT at *
  by_cases e1:a.length = b.length <;> by_cases e2:b.length = d.length
  ·rw [if_pos e1] at h1;rw [if_pos e2] at h2;rw [if_pos (e1.trans e2)]
   exact cmpL_trans d b a h2 h1
  ·rw [if_neg e2] at h2;rw [if_neg (by omega)];omega
  ·rw [if_neg e1] at h1;rw [if_neg (by omega)];omega
  ·rw [if_neg e1] at h1;rw [if_neg e2] at h2;rw [if_neg (by omega)];omega
end
section
def inR (n lo hi:Int):Bool:=decide (lo ≤ n) && decide (n ≤ hi)
theorem xT0 (n lo hi:Int) (w:World) :
  Calls Tryz.prog 112 #[.int .i64 n,.int .i64 lo,.int .i64 hi] w (RetS w (.bool (inR n lo hi))):=by
 unfold inR
 by_cases h1:lo ≤ n <;> by_cases h2:n ≤ hi
 all_goals
  go_enter Tryz.func112,Tryz.ntmps112
  go_wp2
  go_ret
  exact ⟨by simp [*],rfl⟩
theorem xM0 (n lo hi:Int) (w:World) :
  Calls Tryz.prog 135 #[.int .i64 n,.int .i64 lo,.int .i64 hi] w (RetS w (.bool (inR n lo hi))):=by
 unfold inR
 by_cases h1:lo ≤ n <;> by_cases h2:n ≤ hi
 all_goals
  go_enter Tryz.func135,Tryz.ntmps135
  go_wp2
  go_ret
  exact ⟨by simp [*],rfl⟩
theorem take_succ_eq {xs ys:List Int} {k:Nat} (h1:k < xs.length) (h2:k < ys.length) (h:xs.take k = ys.take k) (he:xs[k] = ys[k]):xs.take (k + 1) = ys.take (k + 1):=by
 rw [List.take_succ_eq_append_getElem h1,List.take_succ_eq_append_getElem h2,h,he]
end
section
def qZ (t:List Int):Prop:=t.getD 0 1 = 0∧∀ i,i < t.length→i + 1 < t.length→1 ≤ t.getD (i + 1) 0∧t.getD (i + 1) 0 ≤ t.getD i 0 + 1
instance (t:List Int):Decidable (qZ t):=inferInstanceAs (Decidable (_∧_))
def levB (t:List Int):Bool:=decide (qZ t)
def lev8 (t:List Int):Bool:=decide (t.length ≤ 8) && levB t
theorem qZ.pos {t:List Int} (h:qZ t):0 < t.length:=by
 cases t with
 | nil => have:=h.1;simp at this
 | cons a t => simp
theorem qZ.zero {t:List Int} (h:qZ t) (hp:0 < t.length):t[0] = 0:=by
 have:=h.1
 simpa [hp] using this
theorem qZ.succ {t:List Int} (h:qZ t) {i:Nat} (hi:i + 1 < t.length):1 ≤ t[i + 1]∧t[i + 1] ≤ t[i]'(by omega) + 1:=by
 have:=h.2 i (by omega) hi
 simpa [hi,show i < t.length by omega] using this
theorem qZ.bd {t:List Int} (h:qZ t):∀ i (hi:i < t.length),0 ≤ t[i]∧t[i] ≤ (i:Int):=by
 intro i
 induction i with
 | zero => intro hi;rw [h.zero hi];simp
 | succ i ih =>
  intro hi
  have h1:=h.succ hi
  have h2:=ih (by omega)
  omega
def LevTo (t:List Int) (k:Nat):Prop:=(0 < k→t.getD 0 1 = 0)∧∀ i,i + 1 < k→1 ≤ t.getD (i + 1) 0∧t.getD (i + 1) 0 ≤ t.getD i 0 + 1
theorem LevTo.all {t:List Int} {k:Nat} (h:LevTo t k) (h0:0 < t.length) (hk:t.length ≤ k):qZ t :=
 ⟨h.1 (by omega),fun i _ h2 => h.2 i (by omega)⟩
theorem LevTo.bd {t:List Int} {k:Nat} (h:LevTo t k):∀ i,i < k→i < t.length→0 ≤ t.getD i 0∧t.getD i 0 ≤ (i:Int):=by
 intro i
 induction i with
 | zero =>
  intro hi hl
  have:=h.1 hi
  have e:t.getD 0 0 = t.getD 0 1:=by simp [hl]
  rw [e,this];simp
 | succ i ih =>
  intro hi hl
  have h1:=h.2 i hi
  have h2:=ih (by omega) (by omega)
  omega
theorem vT0 (v:Value) (t:List Int) (w:World) (h:Rd (RS RI) w [v] t) :
  Calls Tryz.prog 116 #[v] w (RetS w (.bool (levB t))):=by
 obtain ⟨oa,c1,I1⟩:=h.ints
 obtain rfl:=I1.val
 have m1:=I1.le;have m2:=I1.capLe
 unfold maxLen at m2
 go_enter Tryz.func116,Tryz.ntmps116
 go_wp2_with fail
 go_loop [7] (fun i => ∃ k:Nat,k ≤ t.length∧i = .int .i64 k∧LevTo t k) (fun i => t.length - (intOf i).toNat)
 case atStart => exact ⟨0,Nat.zero_le _,rfl,fun h => absurd h (Nat.lt_irrefl _),fun i h => by omega⟩
 case round =>
  obtain ⟨k,hk,rfl,hlev⟩:=hrel
  by_cases hlt:k < t.length
  ·obtain ⟨b,off,rfl,hb,hc⟩:=I1.get hlt
   have g1:=hc k hlt
   have hx:=I1.b hlt
   unfold qH at hx
   cases k with
   | zero =>
    rw [Nat.add_zero] at g1
    by_cases hz:t[0] = 0
    ·have hzb:(t[0] != 0) = false:=by simp [hz]
     have Hz:=Lib.hid hz
     have Hlev:=Lib.hid hlev
     clear hz hlev hc
     go_wp2_with fail
     go_round
     case rel => exact ⟨1,by omega,rfl,fun _ => by simpa [hlt] using Hz.out,fun i h => by omega⟩
     case measure => simp [intOf];omega
    ·have hzb:(t[0] != 0) = true:=by simp [hz]
     have Hz:=Lib.hid hz
     have Hlev:=Lib.hid hlev
     clear hz hlev hc
     go_wp2_with fail
     go_ret
     refine ⟨?_,rfl⟩
     have:levB t = false:=by
      apply decide_eq_false
      intro hp
      exact Hz.out (hp.zero hlt)
     rw [this];rfl
   | succ k =>
    have g2:=hc k (by omega)
    have hbd:=hlev.bd k (by omega) (by omega)
    have e1:t.getD k 0 = t[k]:=by simp [show k < t.length by omega]
    have e2:t.getD (k + 1) 0 = t[k + 1]:=by simp [hlt]
    rw [e1] at hbd
    obtain ⟨q1,q2⟩:=hbd
    have q3:IntKind.i64.wrap (t[k] + 1) = t[k] + 1:=by exact IntWalk.i64_in _ (by omega)
    have ek:(((k + 1:Nat):Int) == 0) = false:=by simp;omega
    have ek2:(((k + 1:Nat):Int) - 1) = (k:Int):=by omega
    have Hlev:=Lib.hid hlev
    have H1:=Lib.hid e1
    have H2:=Lib.hid e2
    clear hlev hc e1 e2 q3
    by_cases hr:inR t[k + 1] 1 (t[k] + 1) = true
    ·go_wp2_with (go_at_call 112;refine (xT0 _ _ _ _).mono ?_;rintro e w' ⟨rfl,rfl⟩)
     go_round
     case rel =>
      refine ⟨k + 1 + 1,by omega,by go_num,fun _ => Hlev.out.1 (by omega),fun i hi => ?_⟩
      by_cases hik:i + 1 < k + 1
      ·exact Hlev.out.2 i hik
      ·have hie:i = k:=by omega
       subst hie
       rw [H1.out,H2.out]
       simpa [inR] using hr
     case measure => simp [intOf];omega
    ·have hr':inR t[k + 1] 1 (t[k] + 1) = false:=by simpa using hr
     go_wp2_with (go_at_call 112;refine (xT0 _ _ _ _).mono ?_;rintro e w' ⟨rfl,rfl⟩)
     go_ret
     refine ⟨?_,rfl⟩
     have:levB t = false:=by
      apply decide_eq_false
      intro hp
      have:=hp.succ hlt
      apply hr
      simp [inR];omega
     rw [this];rfl
  ·have hke:k = t.length:=by omega
   by_cases h0:0 < t.length
   ·have hfin:levB t = true:=decide_eq_true (hlev.all h0 (by omega))
    have Hf:=Lib.hid hfin
    have Hlev:=Lib.hid hlev
    clear hfin hlev hke
    go_wp2_with fail
    go_ret
    exact ⟨by rw [Hf.out];first|(simp;done)|(simp;omega),rfl⟩
   ·have ht:t = []:=List.eq_nil_of_length_eq_zero (by omega)
    have hfin:levB t = false:=by rw [ht];rfl
    have Hf:=Lib.hid hfin
    have Hlev:=Lib.hid hlev
    have h0':t.length = 0:=by omega
    clear hfin hlev hke ht
    go_wp2_with fail
    go_ret
    exact ⟨by rw [Hf.out];first|(simp;done)|(simp;omega),rfl⟩
theorem c_impl_IsLevels (v:Value) (t:List Int) (w:World) (h:Rd (RS RI) w [v] t) :
  Calls Tryz.prog 57 #[v] w (RetS w (.bool (lev8 t))):=by
 obtain ⟨oa,c1,I1⟩:=h.ints
 obtain rfl:=I1.val
 have m1:=I1.le;have m2:=I1.capLe
 unfold maxLen at m2
 unfold lev8
 by_cases hl:t.length ≤ 8
 ·go_enter Tryz.func57,Tryz.ntmps57
  go_wp2_with (go_at_call 116;refine (vT0 _ t _ h).mono ?_;rintro e w' ⟨rfl,rfl⟩)
  go_ret
  exact ⟨by simp [hl],rfl⟩
 ·go_enter Tryz.func57,Tryz.ntmps57
  go_wp2_with fail
  go_ret
  exact ⟨by simp,rfl⟩
def LevW (t:List Int) (k:Nat):Prop:=∀ i,i + 1 < k→inR (t.getD (i + 1) 0) 1 (IntKind.i64.wrap (t.getD i 0 + 1)) = true
theorem LevW.lev {t:List Int} {k:Nat} (h:LevW t k) (h0:t.getD 0 1 = 0) (hl:t.length < 1000000000000000) (hk:k ≤ t.length):LevTo t k:=by
 refine ⟨fun _ => h0,?_⟩
 have key:∀ j,j ≤ k→LevTo t j:=by
  intro j
  induction j with
  | zero => intro _;exact ⟨fun h => absurd h (Nat.lt_irrefl _),fun i hi => by omega⟩
  | succ j ih =>
   intro hj
   have hp:=ih (by omega)
   refine ⟨fun _ => h0,fun i hi => ?_⟩
   by_cases hij:i + 1 < j
   ·exact hp.2 i hij
   ·have hie:i + 1 = j:=by omega
    have hb:=hp.bd i (by omega) (by omega)
    have hw:=h i (by omega)
    have e:IntKind.i64.wrap (t.getD i 0 + 1) = t.getD i 0 + 1:=IntWalk.i64_in _ (by omega)
    rw [e] at hw
    simpa [inR] using hw
 exact (key k (Nat.le_refl _)).2
theorem qZ.w {t:List Int} (h:qZ t) (hl:t.length < 1000000000000000) {i:Nat} (hi:i + 1 < t.length):inR (t.getD (i + 1) 0) 1 (IntKind.i64.wrap (t.getD i 0 + 1)) = true:=by
 have h1:=h.2 i (by omega) hi
 have h2:=h.bd i (by omega)
 have e0:t.getD i 0 = t[i]'(by omega):=by simp [show i < t.length by omega]
 have e:IntKind.i64.wrap (t.getD i 0 + 1) = t.getD i 0 + 1:=IntWalk.i64_in _ (by rw [e0];omega)
 rw [e];simpa [inR] using h1
theorem c_spec_l03Is (v:Value) (t:List Int) (w:World) (h:Rd (RS RI) w [v] t) (hsz:t.length < 1000000000000000) :
  Calls Tryz.prog 188 #[v] w (RetQ w (.bool (lev8 t))):=by
 obtain ⟨oa,c1,I1⟩:=h.ints
 obtain rfl:=I1.val
 have m1:=I1.le;have m2:=I1.capLe
 unfold maxLen at m2
 go_enter Tryz.func188,Tryz.ntmps188
 go_wp2_with fail
 go_loopw [3] (fun i wr => ∃ k:Nat,i = .int .i64 (k + 1)∧(k + 1 ≤ t.length ∨ k = 0)∧LevW t (k + 1)∧∃ n,wr = w.drewN n) (fun i _ => t.length + 1 - (intOf i).toNat)
 case atStart => exact ⟨0,by simp,.inr rfl,fun i hi => by omega,0,rfl⟩
 case round =>
  obtain ⟨k,rfl,hk,hlev,n,rfl⟩:=hrel
  have Hlev:=Lib.hid hlev
  have Hk:=Lib.hid hk
  clear hlev hk
  by_cases hlt:k + 1 < t.length
  ·obtain ⟨b,off,rfl,hb,hc⟩:=I1.get hlt
   have g1:=hc (k + 1) hlt
   have g2:=hc k (by omega)
   have e1:t.getD k 0 = t[k]:=by simp [show k < t.length by omega]
   have e2:t.getD (k + 1) 0 = t[k + 1]:=by simp [hlt]
   have H1:=Lib.hid e1
   have H2:=Lib.hid e2
   have hx1:=I1.b (k:=k) (by omega)
   have hi1:(0:Int) ≤ (k:Int) + 1:=by omega
   have hi2:(k:Int) + 1 < (t.length:Int):=by omega
   have hi3:IntKind.i64.wrap (k:Int) = (k:Int):=IntWalk.i64_in _ (by omega)
   have hi4:((k:Int) + 1).toNat = k + 1:=by omega
   have hi5:(k:Int) < (t.length:Int):=by omega
   clear hc e1 e2
   obtain ⟨g,hg⟩:∃ g,IntKind.i64.wrap (t[k] + 1) = g:=⟨_,rfl⟩
   have Hg:=Lib.hid hg
   cases hr:inR t[k + 1] 1 g
   ·go_wp2_with fail
    go_quiet ((go_at_call 135;exact Calls.qS' (xM0 _ _ _ _)))
    go_wp2_with fail
    go_ret
    refine ⟨?_,(by first|exact xW _ _|exact xY _ _ _)⟩
    have:lev8 t = false:=by
     unfold lev8
     rw [Bool.and_eq_false_iff]
     right
     apply decide_eq_false
     intro hp
     have h5:=hp.w (by omega) hlt
     rw [H1.out,H2.out,Hg.out,hr] at h5
     cases h5
    rw [this];rfl
   ·go_wp2_with fail
    go_quiet ((go_at_call 135;exact Calls.qS' (xM0 _ _ _ _)))
    go_wp2_with fail
    go_roundw
    case rel =>
     refine ⟨k + 1,by go_num,by omega,fun i hi => ?_,(by first|exact xW _ _|exact xY _ _ _)⟩
     by_cases hik:i + 1 < k + 1
     ·exact Hlev.out i hik
     ·have hie:i = k:=by omega
      subst hie
      rw [H1.out,H2.out,Hg.out];exact hr
    case measure => simp [intOf];omega
  ·by_cases h0:0 < t.length
   ·have hkk:k + 1 = t.length:=by rcases Hk.out with h|h <;> omega
    obtain ⟨b,off,rfl,hb,hc⟩:=I1.get h0
    have g1:=hc 0 h0
    rw [Nat.add_zero] at g1
    have Hkk:=Lib.hid hkk
    clear hc hkk
    by_cases h8:t.length ≤ 8
    ·by_cases hz:t[0] = 0
     ·have hzb:(t[0] == 0) = true:=by simp [hz]
      have e0:t.getD 0 1 = 0:=by simp [h0,hz]
      have hl:levB t = true:=decide_eq_true ((Hlev.out.lev e0 (by omega) (by rw [Hkk.out];exact Nat.le_refl _)).all h0 (by rw [Hkk.out];exact Nat.le_refl _))
      have Hl:=Lib.hid hl
      clear hz hl e0
      go_wp2_with fail
      go_ret
      exact ⟨by unfold lev8;rw [Hl.out];simp [h8],(by first|exact xW _ _|exact xY _ _ _)⟩
     ·have hzb:(t[0] == 0) = false:=by simp [hz]
      have hl:levB t = false:=decide_eq_false (fun hp => hz (hp.zero h0))
      have Hl:=Lib.hid hl
      clear hz hl
      go_wp2_with fail
      go_ret
      exact ⟨by unfold lev8;rw [Hl.out];simp,(by first|exact xW _ _|exact xY _ _ _)⟩
    ·go_wp2_with fail
     go_ret
     exact ⟨by unfold lev8;simp [h8],(by first|exact xW _ _|exact xY _ _ _)⟩
   ·have ht:t = []:=List.eq_nil_of_length_eq_zero (by omega)
    have Ht:=Lib.hid ht
    have h0':t.length = 0:=by omega
    clear ht
    go_wp2_with fail
    go_ret
    exact ⟨by rw [Ht.out];rfl,(by first|exact xW _ _|exact xY _ _ _)⟩
end
section
def xE (acc:List (List Int)) (l:Int):List (List Int) :=
 (if l = 1 then acc ++ [[]] else acc).set ((if l = 1 then acc ++ [[]] else acc).length - 1) ((if l = 1 then acc ++ [[]] else acc).getD ((if l = 1 then acc ++ [[]] else acc).length - 1) [] ++ [l - 1])
def brTo (t:List Int) (k:Nat):List (List Int):=((t.drop 1).take k).foldl xE []
def brs (t:List Int):List (List Int):=(t.drop 1).foldl xE []
theorem xN (t:List Int) (k:Nat) (h:k + 1 < t.length):brTo t (k + 1) = xE (brTo t k) t[k + 1]:=by
 unfold brTo
 rw [List.take_succ_eq_append_getElem (by simp;omega),List.foldl_append]
 simp [List.foldl]
theorem jH0 (t:List Int) (k:Nat) (h:t.length ≤ k + 1):brTo t k = brs t:=by
 unfold brTo brs
 rw [List.take_of_length_le (by simp;omega)]
theorem vS (acc:List (List Int)):xE acc 1 = acc ++ [[0]]:=by
 unfold xE
 rw [if_pos rfl]
 simp
theorem qK0 (acc:List (List Int)) (l:Int) (h:l ≠ 1) (hp:0 < acc.length):xE acc l = acc.set (acc.length - 1) (acc[acc.length - 1] ++ [l - 1]):=by
 unfold xE
 rw [if_neg h]
 have e:acc.getD (acc.length - 1) [] = acc[acc.length - 1]:=by
  rw [List.getD_eq_getElem?_getD,List.getElem?_eq_getElem (by omega)];rfl
 rw [e]
theorem brStep_len (acc:List (List Int)) (l:Int):(xE acc l).length ≤ acc.length + 1:=by
 unfold xE
 split <;> simp
theorem brTo_len (t:List Int):∀ k,(brTo t k).length ≤ k
 | 0 => by simp [brTo]
 | k + 1 => by
  by_cases h:k + 1 < t.length
  ·rw [xN t k h]
   have:=brStep_len (brTo t k) t[k + 1]
   have:=brTo_len t k
   omega
  ·have:brTo t (k + 1) = brTo t k:=by
    unfold brTo
    rw [List.take_of_length_le (by simp;omega),List.take_of_length_le (by simp;omega)]
   rw [this]
   have:=brTo_len t k
   omega
theorem jX0 {t:List Int} (h:qZ t):∀ k,k + 1 < t.length→0 < (brTo t (k + 1)).length
 | 0,hk => by
  rw [xN t 0 hk]
  have h1:=h.succ hk
  have h0:=h.zero h.pos
  have e:t[0 + 1] = 1:=by simp at h1 ⊢;omega
  rw [e,vS];simp
 | k + 1,hk => by
  have ih:=jX0 h k (by omega)
  rw [xN t (k + 1) hk]
  by_cases e:t[k + 1 + 1] = 1
  ·rw [e,vS];simp
  ·rw [qK0 _ _ e ih];simpa using ih
theorem jM0 (t:List Int):∀ k i (hi:i < (brTo t k).length),((brTo t k)[i]).length ≤ k
 | 0,i,hi => by simp [brTo] at hi
 | k + 1,i,hi => by
  by_cases h:k + 1 < t.length
  ·have key:∀ x ∈ brTo t (k + 1),x.length ≤ k + 1:=by
    have old:∀ x ∈ brTo t k,x.length ≤ k:=by
     intro x hx
     obtain ⟨j,hj,rfl⟩:=List.getElem_of_mem hx
     exact jM0 t k j hj
    rw [xN t k h]
    by_cases e:t[k + 1] = 1
    ·rw [e,vS]
     intro x hx
     rcases List.mem_append.1 hx with hx|hx
     ·have:=old x hx;omega
     ·simp at hx;subst hx;simp
    ·by_cases hp:0 < (brTo t k).length
     ·rw [qK0 _ _ e hp]
      intro x hx
      rcases List.mem_or_eq_of_mem_set hx with hx|rfl
      ·have:=old x hx;omega
      ·have:=old _ (List.getElem_mem (show (brTo t k).length - 1 < (brTo t k).length by omega))
       simp;omega
     ·have e0:brTo t k = []:=List.eq_nil_of_length_eq_zero (by omega)
      rw [e0]
      intro x hx
      unfold xE at hx
      rw [if_neg e] at hx
      simp at hx
   exact key _ (List.getElem_mem hi)
  ·have e:brTo t (k + 1) = brTo t k:=by
    unfold brTo
    rw [List.take_of_length_le (by simp;omega),List.take_of_length_le (by simp;omega)]
   have:=jM0 t k i (by rw [← e];exact hi)
   simp only [e];omega
theorem xB0 (v:Value) (t:List Int) (w:World) (h:Rd (RS RI) w [v] t) (hl:qZ t) (hsz:t.length ≤ 1000000000) :
  Calls Tryz.prog 103 #[v] w (RetO (RS (RS RI)) w (brs t)):=by
 obtain ⟨oa,c1,I1⟩:=h.ints
 obtain rfl:=I1.val
 have m1:=I1.le;have m2:=I1.capLe
 unfold maxLen at m2
 have hp:=hl.pos
 obtain ⟨b,off,rfl,hb,hc⟩:=I1.get hp
 obtain ⟨ao,hao,haoc⟩:∃ ao,(if c1 = 1 then some (⟨b,off,none⟩:Addr) else some ⟨b,off + 1,none⟩) = ao∧∀ j,j + 1 < t.length→ao = some ⟨b,off + 1,none⟩:=by
  refine ⟨_,rfl,fun j hj => ?_⟩
  rw [if_neg (by omega)]
 go_enter Tryz.func103,Tryz.ntmps103
 go_wp2_with fail
 go_loopw [3,10] (fun o i wr => ∃ k:Nat,k + 1 ≤ t.length∧i = .int .i64 k∧(∃ oa cap,o = .slice oa (brTo t k).length cap)∧Own (RS (RS RI)) w.heap.size wr.heap.size wr [o] (brTo t k)∧Below w.heap.size w wr) (fun _ i _ => t.length - (intOf i).toNat)
 case atStart => exact ⟨0,hp,rfl,⟨_,_,rfl⟩,Own.empty (R:=RS RI) (w:=w) 24 w.heap.size (Nat.le_refl _) |>.top _ (by simp),(Below.refl _ _).alloc (Nat.le_refl _) _⟩
 case round =>
  obtain ⟨k,hk,rfl,⟨oa,cap,rfl⟩,hown,hbel⟩:=hrel
  have hsz1:=hbel.size
  by_cases hlt:k + 1 < t.length
  ·obtain rfl:=haoc k hlt
   have Hao:=Lib.hid hao
   have g1:wr.cell? ⟨b,off + 1 + k,none⟩ = some (.int .i64 t[k + 1]):=by
    have e:=(hbel.cell (p:=⟨b,off + (k + 1),none⟩) hb).trans (hc (k + 1) hlt)
    rwa [show off + (k + 1) = off + 1 + k by omega] at e
   have hbd:=hl.bd (k + 1) hlt
   obtain ⟨q1,q2⟩:=hbd
   have hs1:=hl.succ hlt
   obtain ⟨q3,q4⟩:=hs1
   have hnl:=brTo_len t k
   have hlen1:k < t.length - 1:=by omega
   by_cases he:t[k + 1] = 1
   ·have heb:(t[k + 1] == 1) = true:=by simp [he]
    have hnext:brTo t (k + 1) = (brTo t k ++ [[]]).set (brTo t k).length (([]:List Int) ++ [t[k + 1] - 1]):=by
     rw [xN t k hlt,he,vS];simp
    have Hn:=Lib.hid hnext
    clear hao hc he hnext
    go_wp2_with (at_builtin;refine jT0 (o:=⟨some 18,_,_,_,_,_⟩) rfl _ _ 36 rfl 24 (.slice none 0 0) 1 24 tI64S rfl _ (brTo t k) [] [.slice none 0 0] w.heap.size wr.heap.size wr.heap.size rfl hown (Own.nil _ _) (Nat.le_refl _) hsz1 24 rfl rfl (by omega) (by omega) ?_;intro oa1 cap1 w1 hown1 c1a c1b hbel1;refine jA.out ?_)
    have hbel2:=hbel.trans hbel1
    have hsz2:=hbel2.size
    have g2:=(hbel1.cell (p:=⟨b,off + 1 + k,none⟩) hb).trans g1
    obtain ⟨g,cap2,h0,m,ds,og,hv,hg1,hg2,hcell,hr0,hm,hog,hK⟩:=Own.inner hown1 (brTo t k).length (by simp) ((brTo t k).length + 1) (by simp)
    simp only [Value.slice.injEq,true_and] at hv
    obtain ⟨rfl,rfl⟩:=hv
    have hm0:m = 0:=by rw [hm];simp
    subst hm0
    have HK:=Lib.hid hK
    clear hK hm g1 hbel1 hbel
    refine jA.go ?_
    go_wp2_with (refine xX0 (o:=⟨some 32,_,_,_,_,_⟩) rfl _ _ 24 rfl 2 (.int .i64 0) 1 8 tI64 h0 0 ds og rfl hr0 2 [.int .i64 (t[k + 1] - 1)] rfl rfl rfl (by simp [Value.oneCell']) (by omega) (by unfold maxLen;omega) ?_;intro h' w2 og' happ;refine jA.out ?_)
    obtain ⟨f1,f2,f3,f4⟩:=HK.out (t[k + 1] - 1) [.int .i64 (t[k + 1] - 1)] w1.heap.size w1.heap.size h' w2 og' (Own.int ⟨by omega,by omega⟩) (Nat.le_refl _) happ
    obtain ⟨oa',cap',rfl,_⟩:=happ.1.val
    have f5:=hbel2.trans (f4 hsz2)
    clear f4 happ
    simp only [List.getElem_append_right (Nat.le_refl _),Nat.sub_self,List.getElem_singleton] at f3
    rw [← Hn.out] at f3
    simp only [Nat.zero_add] at f1 f2 f3 f5
    refine jA.go ?_
    go_wp2_with fail
    go_roundw
    case rel => exact ⟨k + 1,by omega,by go_num,⟨some ⟨g,0,none⟩,cap1,by rw [Hn.out];simp⟩,f3,f5⟩
    case measure => simp [intOf];omega
   ·have heb:(t[k + 1] == 1) = false:=by simp [he]
    have hk0:0 < k:=by
     rcases Nat.eq_zero_or_pos k with rfl|h
     ·have h0:=hl.zero hp
      simp only [Nat.zero_add] at q3 q4 he
      omega
     ·exact h
    have hpos:0 < (brTo t k).length:=by
     obtain ⟨k',rfl⟩:∃ k',k = k' + 1:=⟨k - 1,by omega⟩
     exact jX0 hl k' (by omega)
    have hnext:brTo t (k + 1) = (brTo t k).set ((brTo t k).length - 1) ((brTo t k)[(brTo t k).length - 1] ++ [t[k + 1] - 1]):=by
     rw [xN t k hlt,qK0 _ _ he hpos]
    have Hn:=Lib.hid hnext
    have hidx:(brTo t k).length - 1 < (brTo t k).length:=by omega
    have hea:=jM0 t k ((brTo t k).length - 1) hidx
    clear hao hc he hnext
    obtain ⟨g,cap2,h0,m,ds,og,hv,hg1,hg2,hcell,hr0,hm,hog,hK⟩:=Own.inner hown ((brTo t k).length - 1) hidx _ rfl
    obtain ⟨n,hn⟩:∃ n,(brTo t k).length = n + 1:=⟨(brTo t k).length - 1,by omega⟩
    simp only [Value.slice.injEq,true_and] at hv
    obtain ⟨rfl,rfl⟩:=hv
    have HK:=Lib.hid hK
    have Hnn:=Lib.hid hn
    have hml:m ≤ k:=by omega
    have en:(brTo t k).length - 1 = n:=by omega
    rw [en] at hcell
    rw [hn]
    have Hen:=Lib.hid en
    have hnb:n < 1000000000:=by omega
    clear hK hm hn en hea
    go_wp2_with (refine xX0 (o:=⟨some 32,_,_,_,_,_⟩) rfl _ _ 24 rfl 2 (.int .i64 0) 1 8 tI64 h0 m ds og rfl hr0 2 [.int .i64 (t[k + 1] - 1)] rfl rfl rfl (by simp [Value.oneCell']) (by omega) (by unfold maxLen;omega) ?_;intro h' w2 og' happ;refine jA.out ?_)
    obtain ⟨f1,f2,f3,f4⟩:=HK.out (t[k + 1] - 1) [.int .i64 (t[k + 1] - 1)] wr.heap.size wr.heap.size h' w2 og' (Own.int ⟨by omega,by omega⟩) (Nat.le_refl _) happ
    obtain ⟨oa',cap',rfl,_⟩:=happ.1.val
    have f5:=hbel.trans (f4 hsz1)
    clear f4 happ
    rw [← Hn.out] at f3
    rw [Hen.out] at f1 f2 f3 f5
    refine jA.go ?_
    go_wp2_with fail
    go_roundw
    case rel => exact ⟨k + 1,by omega,by go_num,⟨some ⟨g,0,none⟩,cap,by rw [Hn.out];simp [Hnn.out]⟩,by rw [← Hnn.out];exact f3,f5⟩
    case measure => simp [intOf];omega
  ·have hfin:brTo t k = brs t:=jH0 t k (by omega)
   rw [hfin] at hown
   have Hfin:=Lib.hid hfin
   have hke:¬ k < t.length - 1:=by omega
   clear hfin
   go_wp2_with fail
   go_ret
   exact ⟨_,rfl,by rw [Hfin.out];exact hown,hbel⟩
end
end Go.Proofs.YtedgfkpfhonlpaaGreat

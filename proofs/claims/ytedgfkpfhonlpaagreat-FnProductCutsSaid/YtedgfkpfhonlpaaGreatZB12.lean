/- Lemmas (12). -/
import Derived.Test.YtedgfkpfhonlpaaGreatZB0
import Derived.Test.YtedgfkpfhonlpaaGreatZB1
import Derived.Test.YtedgfkpfhonlpaaGreatZB7
import Derived.Test.YtedgfkpfhonlpaaGreatZB8
import Derived.Test.YtedgfkpfhonlpaaGreatZB9
import Derived.Test.YtedgfkpfhonlpaaGreatZB10
import Derived.Test.YtedgfkpfhonlpaaGreatZB11
set_option maxHeartbeats 16000000
set_option maxRecDepth 100000
set_option linter.unusedSimpArgs false
set_option linter.unusedVariables false
namespace Go.Proofs.YtedgfkpfhonlpaaGreat
open Go.RowKit
section
def rowA:Obj→Option (List AC)
 | .lit _ [r] => some r
 | .row _ [r] _ => some (r.map .val)
 | _ => none
def vX (h:Nat→Option Obj):AV→Option (List AC)
 | .optr key 0 j => (h key).bind fun o => (rowA o).map (·.drop j)
 | _ => none
def aloadA (z:List D) (st:Bool) (cs:List AC):Option AV :=
 if st then (if z.length ≤ cs.length then some (.agg (cs.take z.length)) else none) else (cs[0]?).map .c
section
variable {P:Program} {cfg:Cfg} {M:Nat→Prop} {ops:Array Oper} {s s':St} {w0:W0} {w:World} {Ok:Nat→Prop} {N:Nat} {σ:Asg} {a:Act} {fs:List Fr} {Q:Exit→St→Prop} {T:Tab P} {H:List (Nat × Obj)}
theorem rdCs.toA:∀ {x:List D} {us:List Value},rdCs (Zn σ H w) w us x→relCs σ H w (x.map .val) us
 | [],us,h => List.eq_nil_of_length_eq_zero (by rw [h.len];rfl)
 | y :: x,us,h => by
  obtain ⟨u,us',rfl,h3,h4⟩:=h.cons_inv
  exact ⟨u,us',rfl,h3.one,h3,rdCs.toA h4⟩
theorem relCs.len:∀ {x:List AC} {us:List Value},relCs σ H w x us→us.length = x.length
 | [],_,h => by rw [show _ = [] from h];rfl
 | y :: x,_,⟨u,us',e,_,_,h⟩ => by rw [e,List.length_cons,List.length_cons,relCs.len h]
theorem relCs.nth:∀ {x:List AC} {us:List Value},relCs σ H w x us→∀ {j:Nat} {y:AC},x[j]? = some y→∃ v,us[j]? = some v∧v.oneCell' = true∧relAC σ H w y v
 | y :: x,_,⟨u,us',e,h1,h2,h⟩,0,_,hj => by cases hj;rw [e];exact ⟨u,rfl,h1,h2⟩
 | y :: x,_,⟨u,us',e,h1,h2,h⟩,j + 1,_,hj => by rw [e];exact relCs.nth h (by simpa using hj)
theorem relCs.dropA:∀ {j:Nat} {x:List AC} {us:List Value},relCs σ H w x us→relCs σ H w (x.drop j) (us.drop j)
 | 0,_,_,h => h
 | j + 1,[],us,h => by rw [show us = [] from h];rfl
 | j + 1,y :: x,_,⟨u,us',e,_,_,h⟩ => by rw [e];exact relCs.dropA (j:=j) h
theorem relCs.takeA:∀ {j:Nat} {x:List AC} {us:List Value},relCs σ H w x us→relCs σ H w (x.take j) (us.take j)
 | 0,_,_,_ => by simp [relCs]
 | j + 1,[],us,h => by rw [show us = [] from h];rfl
 | j + 1,y :: x,_,⟨u,us',e,h1,h2,h⟩ => by rw [e];exact ⟨u,us'.take j,rfl,h1,h2,relCs.takeA (j:=j) h⟩
theorem relCs.appA:∀ {x y:List AC} {us vs:List Value},relCs σ H w x us→relCs σ H w y vs→relCs σ H w (x ++ y) (us ++ vs)
 | [],_,_,_,h,k => by rw [show _ = [] from h];exact k
 | z :: x,_,_,_,⟨u,us',e,h1,h2,h⟩,k => by rw [e];exact ⟨u,_,rfl,h1,h2,relCs.appA h k⟩
theorem Sim.rowA (h:Sim w0 Ok N σ s a w) {key:Nat} {o:Obj} (hk:look key s.heap = some o) {r:List AC} (hr:rowA o = some r) :
  o.len = 1∧0 < o.k∧∃ us,us.length = o.k∧Row w (slv (σ.g key) o.len (σ.cap key)) o.k o.len us (σ.g key)∧relCs σ s.heap w r us:=by
 unfold Go.Proofs.YtedgfkpfhonlpaaGreat.rowA at hr
 split at hr
 ·rename_i k r'
  cases hr
  obtain ⟨ds,hrow,hkp,hel⟩:=(h.rows key _ hk).row
  obtain ⟨c,d,e,hl,hc,hd⟩:=(show relRs σ s.heap w k [r] ds from hel)
  have hd:d = []:=hd
  subst hd
  rw [List.append_nil] at e
  subst e
  exact ⟨rfl,hkp,ds,hl,hrow,hc⟩
 ·rename_i k r' d
  cases hr
  obtain ⟨ds,hrow,hkp,hel⟩:=RowOK.rd h.ok1 h.rows h.disj hk
  obtain ⟨c,e,e1,hl,hcl,hc,he⟩:=hel.cons_inv
  have he:e = []:=by
   have h1:=hrow.1
   rw [e1,List.length_append,hcl] at h1
   simp only [List.length_cons,List.length_nil] at h1
   exact List.eq_nil_of_length_eq_zero (by omega)
  subst he
  rw [List.append_nil] at e1
  subst e1
  exact ⟨rfl,hkp,ds,hcl,hrow,hc.toA⟩
 ·cases hr
theorem g_loadA (C:CfgOK P cfg) (h:Sim w0 Ok N σ s a w) {o:Oper} {x:Operand} {t:TypeId} {z:List D} {st:Bool} (ho:o.op = .load t x) (ht:cfg.ty t = some (z,st)) {v av:AV} (hx:opv s.regs x = some v)
  {cs:List AC} (hc:vX (fun k => look k s.heap) v = some cs) (hv:aloadA z st cs = some av):xV P a w o (relAV σ s.heap w av):=by
 obtain ⟨zv,ti,d,t1,t2,t3,t4,t5,t6,t7,t8⟩:=C.ty t z st ht
 have hrel:=qO h hx
 unfold vX at hc
 split at hc
 ·rename_i key j
  obtain ⟨ob,hk,hc⟩:=bind_some hc
  obtain ⟨r,hr,e0⟩:=map_some hc
  subst e0
  have hk:look key s.heap = some ob:=hk
  obtain ⟨hlen,hkp,us,hul,hrow,hcs⟩:=h.rowA hk hr
  obtain ⟨_,b,hg,e⟩:=hrel _ hk
  rw [hg] at hrow
  rw [Nat.zero_mul,Nat.zero_add] at e
  have hcd:=hcs.dropA (j:=j)
  have hcell:∀ q u,(us.drop j)[q]? = some u→w.cell? ⟨b,j + q,none⟩ = some u:=fun q u hu => hrow.cells _ _ (by rw [List.getElem?_drop] at hu;exact hu)
  unfold aloadA at hv
  cases st with
  | true =>
   rw [if_pos rfl] at hv
   split at hv
   ·rename_i hl
    cases hv
    have h2:=hcd.takeA (j:=z.length)
    obtain ⟨vs,hvs⟩:∃ vs,vs = (us.drop j).take z.length:=⟨_,rfl⟩
    rw [← hvs] at h2
    have hvl:vs.length = z.length:=by rw [h2.len,List.length_take];omega
    refine ⟨.agg vs.toArray,?_,vs,rfl,h2⟩
    unfold execOp
    rw [ho]
    have hi:(P.info? t).map (·.size) = some vs.length:=by rw [t1,hvl,← t3];rfl
    have hrange:w.rangeAt b j vs:=fun q v hq => hcell q v (by
     rw [hvs,List.getElem?_take] at hq
     split at hq
     ·exact hq
     ·cases hq)
    simp only [e,run_loadAt_mid w b j t vs d hrange t6 t7 hi,Sem.run_bind,Result.andThen_ok,Sem.run_pure]
   ·cases hv
  | false =>
   obtain ⟨d0,hd0,e0⟩:=map_some hv
   cases e0
   obtain ⟨y,hy1,hy2,hy3⟩:=hcd.nth hd0
   refine ⟨y,?_,hy2,hy3⟩
   unfold execOp
   rw [ho]
   have hagg:(isAgg t).run P w = .ok false w:=by
    unfold isAgg
    rw [Sem.run_bind,run_underlying t6 w]
    cases d <;> first|rfl|(cases t7)
   have hcell:w.cell? ⟨b,j,none⟩ = some y:=hcell 0 y hy1
   simp [e,Instr.loadAt,Instr.sureAddr,loadVar,hagg,run_load,hcell]
 ·cases hc
def devalA (cfg:Cfg) (ops:Array Oper) (o:Oper) (s:St):Option Tel :=
 match o.op with
 | .load t x => if dstOK cfg o = true∧qM ops s.regs o = some true then
   o.dst.bind fun d => (cfg.ty t).bind fun z => (opv s.regs x).bind fun v => (vX (fun k => look k s.heap) v).bind fun cs => (aloadA z.1 z.2 cs).map fun av => ⟨⟨d,av,[]⟩,jQ s.regs o.op.operands.toList⟩
  else Option.none
 | _ => Option.none
theorem acellsA_congr {h h':Nat→Option Obj} {v:AV} (hk:∀ k ∈ v.refs,h' k = h k):vX h' v = vX h v:=by
 cases v with
 | optr key i j =>
  have:=hk key (by simp [AV.refs])
  cases i with
  | zero => simp only [vX,this]
  | succ i => rfl
 | _ => rfl
theorem jE.loadA (C:CfgOK P cfg) {i:Nat} {o:Oper} (hi:ops[i]? = some o) {t:Tel} (h:devalA cfg ops o s = some t):jE P cfg ops i s t:=by
 unfold devalA at h
 split at h
 ·rename_i ty x hop
  split at h
  ·rename_i hc
   obtain ⟨d,hd,h⟩:=bind_some h
   obtain ⟨z,hz,h⟩:=bind_some h
   obtain ⟨v,hv,h⟩:=bind_some h
   obtain ⟨cs,hcs,h⟩:=bind_some h
   obtain ⟨av,hav,rfl⟩:=map_some h
   refine ⟨o,hi,hd,fun s' h1 h2 h3 w0 Ok σ a w K Q hS hK => ?_⟩
   have hw:qM ops s'.regs o = some true:=by rw [wR h1,hc.2]
   have hag:=agree_of (xs:=o.op.operands.toList) (fun x hx => hx) h1 h2
   have hxm:x ∈ o.op.operands.toList:=by rw [hop];simp [Op.operands]
   have hv':opv s'.regs x = some v:=by rw [hag.one hxm];exact hv
   have hcs':vX (fun k => look k s'.heap) v = some cs:=by rw [acellsA_congr (h:=fun k => look k s.heap) (hag.refs hxm hv)];exact hcs
   obtain ⟨u,k1,k2⟩:=g_loadA C hS hop hz hv' hcs' hav
   unfold wpOp
   simp only [hi,xB hS hw,if_true]
   left
   have hdN:d < cfg.N:=by have:=hc.1;rw [dstOK,hd] at this;simpa using this
   unfold Oper.wp
   rw [k1]
   show K (a.put o.dst _) _
   rw [hd]
   exact hK σ _ _ (Sim.ins hS hdN k2)
  ·cases h
 ·cases h
def devalL (fz la:List Nat) (cfg:Cfg) (T:Tab P) (ops:Array Oper) (o:Oper) (s:St):Option Tel :=
 bif la.contains (o.dst.getD 0) then devalA cfg ops o s else kT fz cfg T ops o s
def drunL (fz la:List Nat) (cfg:Cfg) (T:Tab P) (ops:Array Oper):List Oper→St→List Tel × St × List Oper
 | [],s => ([],s,[])
 | o :: l,s => match devalL fz la cfg T ops o s with
  | some t => ((t :: (drunL fz la cfg T ops l (s.add t.e)).1),(drunL fz la cfg T ops l (s.add t.e)).2)
  | Option.none => ([],s,o :: l)
theorem drunL_spec {fz la:List Nat} (C:CfgOK P cfg):∀ {l:List Oper} {i:Nat} {s:St},(∀ j,l[j]? = ops[i + j]?)→Tr P cfg ops i s (drunL fz la cfg T ops l s).1 ∧
  (drunL fz la cfg T ops l s).2.1 = (drunL fz la cfg T ops l s).1.foldl (fun s t => s.add t.e) s∧(drunL fz la cfg T ops l s).2.2 = l.drop (drunL fz la cfg T ops l s).1.length
 | [],i,s,_ => ⟨trivial,rfl,rfl⟩
 | o :: l,i,s,hl => by
  have hi:ops[i]? = some o:=by have:=hl 0;simpa using this.symm
  simp only [drunL]
  cases hd:devalL fz la cfg T ops o s with
  | none => exact ⟨trivial,rfl,rfl⟩
  | some t =>
   obtain ⟨h1,h2,h3⟩:=drunL_spec (fz:=fz) (la:=la) C (l:=l) (i:=i + 1) (s:=s.add t.e) (fun j => by have:=hl (j + 1);simpa [Nat.add_assoc,Nat.add_comm 1 j] using this)
   refine ⟨⟨?_,h1⟩,by simpa using h2,by simpa using h3⟩
   unfold devalL at hd
   cases hb:la.contains (o.dst.getD 0) with
   | true => rw [hb] at hd;exact jE.loadA C hi hd
   | false =>
    rw [hb] at hd
    have hd:kT fz cfg T ops o s = some t:=hd
    unfold kT at hd
    cases hb:fz.contains (o.dst.getD 0) with
    | true => rw [hb] at hd;exact jE.lit C hi hd
    | false => rw [hb] at hd;exact jE.opT C hi hd
theorem qJ.wFl (C:CfgOK P cfg) (T:Tab P) (hm:P.follows .mixedOrders = true) (fz la:List Nat) {id:Nat} {tr:List Tel} {s1:St} {rest:List Oper} (hr:Work (dregF s (drunL fz la cfg T ops ops.toList s)) (some (tr,s1,rest))) (h1:ChkD ops tr)
  (h:qZ P cfg M ops rest (outK P cfg M fs Q .normal) s1):qJ P cfg M (.region id ops true) fs Q s:=by
 have hr:dregF s (drunL fz la cfg T ops ops.toList s) = some (tr,s1,rest):=hr
 obtain ⟨⟨tr0,s10,rest0⟩,e⟩:∃ r,r = drunL fz la cfg T ops ops.toList s:=⟨_,rfl⟩
 rw [← e,wU] at hr
 split at hr
 ·rename_i hf
  cases hr
  obtain ⟨k1,k2,k3⟩:=drunL_spec (T:=T) (fz:=fz) (la:=la) C (ops:=ops) (l:=ops.toList) (i:=0) (s:=s) (fun j => by simp)
  rw [← e] at k1 k2 k3
  refine qA.draw hm k1 h1 hf ?_
  show qZ P cfg M ops (ops.toList.drop tr.length) _ (tr.foldl (fun s t => s.add t.e) s)
  rw [← k2,← k3]
  exact h
 ·cases hr
theorem qZ.loadA (C:CfgOK P cfg) {o:Oper} {l:List Oper} {Q:St→Prop} {d:Nat} {t:TypeId} {x:Operand} (ho:o.op = .load t x) (hg:o.guard = Option.none) (hd:o.dst = some d) (hdN:d < cfg.N) {z:List D} {st:Bool} (ht:cfg.ty t = some (z,st))
  {v av:AV} (hx:opv s.regs x = some v) {cs:List AC} (hc:vX (fun k => look k s.heap) v = some cs) (hv:aloadA z st cs = some av) (h:qZ P cfg M ops l Q ⟨insR d av s.regs,s.heap⟩):qZ P cfg M ops (o :: l) Q s :=
 qZ.gives o hg hd hdN (fun hS => g_loadA C hS ho ht hx hc hv) h
theorem qZ.cut (C:CfgOK P cfg) (T:Tab P) (n:Nat) {l:List Oper} {Q:St→Prop} {s1:St} (ha:Work (aopsT cfg T ops (l.take n) s) (some s1)) (h:qZ P cfg M ops (l.drop n) Q s1):qZ P cfg M ops l Q s:=by
 have ha:aopsT cfg T ops (l.take n) s = some s1:=ha
 have cut:∀ (l m:List Oper) (s:St),aopsT cfg T ops l s = some s1→qZ P cfg M ops m Q s1→qZ P cfg M ops (l ++ m) Q s:=by
  intro l
  induction l with
  | nil => intro m s h1 h2;simp only [aopsT,Option.some.injEq] at h1;subst h1;exact h2
  | cons o l ih =>
   intro m s h1 h2
   simp only [aopsT] at h1
   obtain ⟨s2,h3,h4⟩:=bind_some h1
   exact qZ.stepT C h3 (ih m s2 h4 h2)
 have:=cut _ _ s ha h
 rwa [List.take_append_drop] at this
theorem m_storeA (C:CfgOK P cfg) (h:Sim w0 Ok N σ s a w) {o:Oper} {x y:Operand} {t:TypeId} {z:List D} {st:Bool} (ho:o.op = .store t x y) (ht:cfg.ty t = some (z,st)) {key j:Nat} (hx:opv s.regs x = some (.optr key 0 j)) {vy:AV} (hy:opv s.regs y = some vy)
  {cs:List AC} (hc:xX vy = some cs) (hcl:cs.length = z.length) {u:Obj} (hk:look key s.heap = some u) {r:List AC} (hr:rowA u = some r) (hj:j + z.length ≤ u.k)
  {K:Act→World→Prop} {Q:Exit→Act→World→Prop} (hK:∀ w',Sim w0 Ok N σ ⟨s.regs,insR key (.lit u.k [qI r j cs]) s.heap⟩ a w'→K (a.put o.dst undef) w'):o.wp P a w K Q:=by
 obtain ⟨zv,ti,td,t1,t2,t3,_,t5,t6,t7,t8⟩:=C.ty t z st ht
 have hcs:=qY0 hc (qO h hy)
 obtain ⟨_,g,hg,ex⟩:=qO h hx _ hk
 rw [Nat.zero_mul,Nat.zero_add] at ex
 have hRO:=h.rows key _ hk
 obtain ⟨hlen,hkp,us,hul,hR,hus⟩:=h.rowA hk hr
 rw [hg] at hR
 obtain ⟨vs,hvs⟩:∃ vs,vs = (a.eval y).cells.toList:=⟨_,rfl⟩
 rw [← hvs] at hcs
 have hvl:vs.length = z.length:=by rw [hcs.len,hcl]
 have hrl:r.length = u.k:=by rw [← hus.len,hul]
 have hoff:j + vs.length ≤ us.length:=by omega
 obtain ⟨hR',hgr⟩:=Row.storeCells vs j hR hoff
 obtain ⟨W,hW⟩:∃ W,W = w.setCells g j vs:=⟨_,rfl⟩
 rw [← hW] at hR' hgr
 have hsz:=hgr.size
 have hgf:g ∈ fp σ key u:=qL hg
 have hblk:∀ b,b < w.heap.size→b ≠ g→W.heap[b]? = w.heap[b]?:=fun b hb hne => hgr.block b hb (fun e => hne (by cases e;rfl))
 obtain ⟨ob,hob⟩:∃ ob,ob = Obj.lit u.k [qI r j cs]:=⟨_,rfl⟩
 rw [← hob] at hK
 have hobl:ob.len = u.len∧ob.k = u.k∧ob.deep = false:=by rw [hob];exact ⟨hlen.symm,rfl,rfl⟩
 have hlk:∀ q o',look q (insR key ob s.heap) = some o'→(q = key∧o' = ob) ∨ (q ≠ key∧look q s.heap = some o'):=by
  intro q o' hq
  rw [qR] at hq
  split at hq
  ·rename_i e
   cases hq
   exact .inl ⟨e.symm,rfl⟩
  ·rename_i e
   exact .inr ⟨fun e' => e e'.symm,hq⟩
 have hZ:jV σ σ s.heap (insR key ob s.heap) w W:=by
  intro c hc
  have hcg:c ≠ g:=fun e => hc.2.2 key _ hk (by rw [hg,e])
  refine ⟨⟨Nat.lt_of_lt_of_le hc.1 hsz,hc.2.1,fun q o' hq e => ?_⟩,hblk c hc.1 hcg⟩
  rcases hlk q o' hq with ⟨e1,_⟩|⟨_,hq⟩
  ·rw [e1] at e
   exact hc.2.2 key _ hk e
  ·exact hc.2.2 q o' hq e
 have hst:∀ q,jT σ σ s.heap (insR key ob s.heap) q:=by
  intro q o' hq
  rcases hlk q o' hq with ⟨rfl,rfl⟩|⟨_,hq⟩
  ·exact ⟨_,hk,hobl.2.1.symm,hobl.1.symm,rfl,rfl⟩
  ·exact ⟨o',hq,rfl,rfl,rfl,rfl⟩
 have hfp1:∀ c ∈ fp σ key ob,c ∈ fp σ key u:=by
  intro c hc
  unfold fp at hc ⊢
  rw [hobl.2.2] at hc
  rcases List.mem_append.1 hc with hc|hc
  ·exact List.mem_append_left _ hc
  ·cases hc
 have hS:Sim w0 Ok N σ ⟨s.regs,insR key ob s.heap⟩ a W:=by
  refine h.step rfl (h.below.grown hgr (fun g' hg' => by cases hg';exact hRO.fresh g hgf)) hZ (fun r av hr => ⟨av,hr,.inl ⟨rfl,fun q _ => hst q⟩⟩) (fun q o' hq => ?_) ?_
  ·rcases hlk q o' hq with ⟨rfl,rfl⟩|⟨hne,hq⟩
   ·refine ⟨⟨qI us j vs,?_,by rw [hobl.2.1];exact hkp,?_⟩,fun c hc => hRO.fresh c (hfp1 c hc),?_⟩
    ·rw [hobl.1,hobl.2.1,hg];exact hR'
    ·have e1:relCs σ (insR q o' s.heap) W (qI r j cs) (qI us j vs):=by
      have k1:=hus.step hZ (fun k _ => hst k)
      have k2:=hcs.step hZ (fun k _ => hst k)
      unfold qI
      rw [hvl,← hcl]
      exact ((k1.takeA).appA k2).appA k1.dropA
     show elOK σ (insR q o' s.heap) W q (qI us j vs) o'
     rw [hob] at e1 ⊢
     refine ⟨qI us j vs,[],by simp,?_,e1,rfl⟩
     unfold qI
     rw [List.length_append,List.length_append,List.length_take,List.length_drop];omega
    ·unfold fp
     rw [hobl.2.2,hg]
     simp
   ·refine RowOK.keep h.ok1 h.rows h.disj hq hZ (fun q' _ => hst q') rfl rfl rfl (fun c hc => hblk c (yO h hq c (qL hc)) (fun e => ?_))
    subst e
    exact h.disj q o' key _ hq hk hne c (qL hc) hgf
  ·intro p o1 q u1 hp hq hpq c hc hc'
   rcases hlk p o1 hp with ⟨rfl,eo⟩|⟨hne,hp'⟩
   ·rcases hlk q u1 hq with ⟨e,_⟩|⟨hne,hq⟩
    ·exact hpq e.symm
    ·rw [eo] at hc
     exact h.disj p _ q u1 hk hq hpq c (hfp1 c hc) hc'
   ·rcases hlk q u1 hq with ⟨rfl,eu⟩|⟨hne',hq'⟩
    ·rw [eu] at hc'
     exact h.disj p o1 q _ hp' hk hpq c hc (hfp1 c hc')
    ·exact h.disj p o1 q u1 hp' hq' hpq c hc hc'
 have hsize:(a.eval y).cells.size = ti.size:=by
  have e:(a.eval y).cells.size = vs.length:=by rw [hvs,Array.length_toList]
  rw [e,hvl,← t3]
 have hrun:(storeVar t ⟨g,j,none⟩ (a.eval y)).run P w = .ok () W:=by
  have hone:∀ v ∈ vs,v.oneCell' = true:=by
   intro v hv
   obtain ⟨q,hq,e⟩:=List.getElem_of_mem hv
   have hq':q < cs.length:=by rw [← hcs.len];exact hq
   obtain ⟨v',k1,k2,_⟩:=hcs.nth (List.getElem?_eq_getElem hq')
   rw [List.getElem?_eq_getElem hq,Option.some.injEq] at k1
   rw [← e,k1];exact k2
  have:=run_storeCells_cells (P:=P) g j vs 0 w (fun q hq => by
   obtain ⟨u,hu⟩:∃ u,us[j + q]? = some u:=⟨us[j + q]'(by omega),List.getElem?_eq_getElem _⟩
   rw [Nat.add_zero,hR.cells _ _ hu];rfl) (fun q hq => by rw [Nat.add_zero];exact hR.frozen _) hone
  rw [Nat.add_zero,← hW] at this
  simp [storeVar,sizeOf,typeInfo,t1,hsize,← hvs,this]
 have ex':a.eval x = .pointer (some ⟨g,j,none⟩):=ex
 unfold Oper.wp execOp
 simp only [ho,ex',Instr.storeAt,Instr.sureAddr,Sem.run_bind,Sem.run_pure,Result.andThen_ok,hrun]
 exact hK W hS
theorem qZ.storeA (C:CfgOK P cfg) {o:Oper} {l:List Oper} {Q:St→Prop} {t:TypeId} {x y:Operand} (ho:o.op = .store t x y) (hg:o.guard = Option.none) (hd:o.dst = Option.none) {z:List D} {st:Bool} (ht:cfg.ty t = some (z,st)) {key j:Nat} (hx:opv s.regs x = some (.optr key 0 j))
  {vy:AV} (hy:opv s.regs y = some vy) {cs:List AC} (hc:xX vy = some cs) (hcl:cs.length = z.length) {u:Obj} (hk:look key s.heap = some u) {r:List AC} (hr:Go.Proofs.YtedgfkpfhonlpaaGreat.rowA u = some r) (hj:j + z.length ≤ u.k)
  (h:qZ P cfg M ops l Q ⟨s.regs,insR key (.lit u.k [qI r j cs]) s.heap⟩):qZ P cfg M ops (o :: l) Q s:=by
 intro w0 Ok σ a w Q' hM hS hQ
 refine wpList_step (fun K hK => ?_)
 have hw:qM ops s.regs o = some true:=by unfold qM;rw [hg]
 rw [xB hS hw]
 simp only [if_true]
 refine m_storeA C hS ho ht hx hy hc hcl hk hr hj (fun w' hS' => ?_)
 rw [hd]
 exact hK _ _ (h w0 Ok σ _ _ Q' hM hS' hQ)
theorem relCs.toD:∀ {x:List D} {us:List Value},relCs σ H w (x.map .val) us→rdCs (Zn σ H w) w us x
 | [],us,h => by rw [show us = [] from h];exact rdCs.nil
 | y :: x,_,⟨u,us',e,_,h2,h⟩ => by rw [e];exact rdCs.cons h2 (relCs.toD h)
theorem relCs.killA {k:Nat} {x:List AC} {us:List Value} (h:relCs σ H w x us):relCs σ H w (x.map (AC.kill k)) us:=relCs.kill h
theorem Sim.killL (h:Sim w0 Ok N σ s a w) {key k K:Nat} {r:List AC} (hk:look key s.heap = some (.lit k [r])):Sim w0 Ok N σ ⟨s.regs,insR key (.lit k [r.map (AC.kill K)]) s.heap⟩ a w:=by
 refine h.setObj hk rfl rfl rfl (fun H' hZ hst ds hrow hel => ?_)
 obtain ⟨c,d,e,hl,hc,hd⟩:=(show relRs σ s.heap w k [r] ds from hel)
 exact ⟨c,d,e,hl,(hc.step (fun b hb => ⟨hZ b hb,rfl⟩) (fun q _ => hst q)).killA,hd⟩
theorem qZ.killL {l:List Oper} {Q:St→Prop} (key K:Nat) {k:Nat} {r:List AC} (hk:look key s.heap = some (.lit k [r])) (h:qZ P cfg M ops l Q ⟨s.regs,insR key (.lit k [r.map (AC.kill K)]) s.heap⟩):qZ P cfg M ops l Q s:=by
 intro w0 Ok σ a w Q' hM hS hQ
 exact h w0 Ok σ a w Q' hM (hS.killL hk) hQ
theorem Sim.litRow (h:Sim w0 Ok N σ s a w) {key k:Nat} {r:List D} (hk:look key s.heap = some (.lit k [r.map .val])):Sim w0 Ok N σ ⟨s.regs,insR key (.row k [r] false) s.heap⟩ a w:=by
 obtain ⟨_,hkp,us,hul,_,hus⟩:=h.rowA hk (r:=r.map .val) rfl
 have hrl:r.length = k:=by have:=hus.len;rw [List.length_map] at this;rw [← this];exact hul
 refine h.setObj hk rfl rfl rfl (fun H' hZ hst ds hrow hel => ?_)
 obtain ⟨c,d,e,hl,hc,hd⟩:=(show relRs σ s.heap w k [r.map .val] ds from hel)
 have hd:d = []:=hd
 subst hd
 rw [List.append_nil] at e
 subst e
 exact rdR.single hkp hrl (hc.toD.mono (fun b hb _ => hZ b hb))
theorem qJ.litRow {c:Code} (key:Nat) {k:Nat} (r:List D) (hk:look key s.heap = some (.lit k [r.map .val])) (h:qJ P cfg M c fs Q ⟨s.regs,insR key (.row k [r] false) s.heap⟩):qJ P cfg M c fs Q s:=by
 intro w0 Ok σ a w Q' hM hS hQ
 exact h w0 Ok σ a w Q' hM (hS.litRow hk) hQ
theorem Sim.renR (h:Sim w0 Ok N σ s a w) {r key d n:Nat} (hne:key ≠ d) (hr:look r s.regs = some (.c (.own key n))) {o:Obj} (ho:look key s.heap = some o) (hd:∀ q u,q ≠ d→look q s.heap = some u→d ∉ u.refs) :
  ∃ σ',Sim w0 Ok N σ' ⟨insR r (.c (.own d n)) (killR key (killR d s.regs)),insR d o (drop key (drop d s.heap))⟩ a w:=by
 obtain ⟨σ',e1,e2,h1⟩:=h.rename hne ho hd
 refine ⟨σ',h1.below,h1.ok1,h1.ok2,h1.defers,h1.size,fun q av hq => ?_,h1.rows,h1.disj⟩
 rw [qR] at hq
 split at hq
 ·rename_i e
  cases hq
  subst e
  obtain ⟨k1,k2⟩:=h.regs _ _ hr
  refine ⟨k1,fun o' ho' => ?_⟩
  have ho':look d (insR d o (drop key (drop d s.heap))) = some o':=ho'
  rw [qR,if_pos rfl] at ho'
  cases ho'
  obtain ⟨k3,k4⟩:=k2 o ho
  exact ⟨k3,by rw [e1,e2];exact k4⟩
 ·exact h1.regs q av hq
theorem qZ.renR {l:List Oper} {Q:St→Prop} (r:Nat) {key n:Nat} (d:Nat) (hne:key ≠ d) (hr:look r s.regs = some (.c (.own key n))) {o:Obj} (ho:look key s.heap = some o) (hd:(s.heap.all fun p => p.1 == d || !p.2.refs.contains d) = true)
  (h:qZ P cfg M ops l Q ⟨insR r (.c (.own d n)) (killR key (killR d s.regs)),insR d o (drop key (drop d s.heap))⟩):qZ P cfg M ops l Q s:=by
 intro w0 Ok σ a w Q' hM hS hQ
 obtain ⟨σ',h1⟩:=hS.renR hne hr ho (fun q u hq hu hm => by
  have:=List.all_eq_true.1 hd _ (yD hu)
  simp only [Bool.or_eq_true,beq_iff_eq,Bool.not_eq_true',List.contains_eq_mem,decide_eq_false_iff_not] at this
  rcases this with e|e
  ·exact hq e
  ·exact e hm)
 exact h w0 Ok σ' a w Q' hM h1 hQ
theorem relCs.nilOwn {σ':Asg} {H':List (Nat × Obj)} {K:Nat} (hZ:jV σ σ' H H' w w) (hst:∀ q,q ≠ K→jT σ σ' H H' q) (hK:∀ o,look K H' = some o→0 = o.len∧slv (σ'.g K) 0 (σ'.cap K) = .slice none 0 0) {post:List AC} (hp:K ∉ post.flatMap AC.refs) :
  ∀ {pre:List AC} {us:List Value},K ∉ pre.flatMap AC.refs→relCs σ H w (pre ++ .nil :: post) us→relCs σ' H' w (pre ++ .own K 0 :: post) us
 | [],_,_,⟨u,us',e,h1,h2,h⟩ => ⟨u,us',e,h1,fun o ho => ⟨(hK o ho).1,by rw [(hK o ho).2];exact h2⟩,h.step hZ (fun q hq => hst q (fun e => hp (e ▸ hq)))⟩
 | x :: pre,_,hn,⟨u,us',e,h1,h2,h⟩ => by
  rw [List.flatMap_cons,List.mem_append,not_or] at hn
  exact ⟨u,us',e,h1,h2.step hZ (fun q hq => hst q (fun e => hn.1 (e ▸ hq))),relCs.nilOwn hZ hst hK hp hn.2 h⟩
theorem Sim.nilOwn (h:Sim w0 Ok N σ s a w) {r k K:Nat} {pre post:List AC} (hr:look r s.regs = some (.agg (pre ++ .nil :: post))) (hk:0 < k) (hF:Free s K) :
  ∃ σ',Sim w0 Ok N σ' ⟨insR r (.agg (pre ++ .own K 0 :: post)) s.regs,insR K (.row k [] false) s.heap⟩ a w:=by
 let σ':Asg:=⟨fun q => if q = K then none else σ.g q,fun q => if q = K then 0 else σ.cap q,σ.F,σ.ok⟩
 have a1:σ'.g K = none:=if_pos rfl
 have a2:σ'.cap K = 0:=if_pos rfl
 have a4:∀ q,q ≠ K→σ'.g q = σ.g q∧σ'.cap q = σ.cap q:=fun q hq => ⟨if_neg hq,if_neg hq⟩
 have hfp:∀ q u,q ≠ K→fp σ' q u = fp σ q u:=fun q u hq => by unfold fp;rw [(a4 q hq).1]
 have hfpK:fp σ' K (.row k [] false) = []:=by unfold fp;rw [a1];rfl
 have hlk:∀ q o',look q (insR K (.row k [] false) s.heap) = some o'→(q = K∧o' = .row k [] false) ∨ (q ≠ K∧look q s.heap = some o'):=by
  intro q o' hq
  rw [qR] at hq
  split at hq
  ·rename_i e
   cases hq
   exact .inl ⟨e.symm,rfl⟩
  ·rename_i e
   exact .inr ⟨fun e' => e e'.symm,hq⟩
 have hZ:jV σ σ' s.heap (insR K (.row k [] false) s.heap) w w:=by
  intro b hb
  refine ⟨⟨hb.1,hb.2.1,fun q o' hq e => ?_⟩,rfl⟩
  rcases hlk q o' hq with ⟨e1,_⟩|⟨e1,hq⟩
  ·rw [e1,a1] at e;cases e
  ·rw [(a4 q e1).1] at e
   exact hb.2.2 q o' hq e
 have hst:∀ q,q ≠ K→jT σ σ' s.heap (insR K (.row k [] false) s.heap) q:=by
  intro q hq o' ho'
  rcases hlk q o' ho' with ⟨e1,_⟩|⟨_,ho'⟩
  ·exact absurd e1 hq
  ·exact ⟨o',ho',rfl,rfl,(a4 q hq).1,(a4 q hq).2⟩
 have href:K ∉ (pre ++ AC.nil :: post).flatMap AC.refs:=hF.2.1 r _ hr
 rw [List.flatMap_append,List.flatMap_cons,List.mem_append,List.mem_append,not_or,not_or] at href
 refine ⟨σ',h.step rfl h.below hZ (fun q av hq => ?_) (fun q o' hq => ?_) (fun p o1 q u1 hp hq hpq c hc hc' => ?_)⟩
 ·have hq:look q (insR r (.agg (pre ++ .own K 0 :: post)) s.regs) = some av:=hq
  rw [qR] at hq
  by_cases e:r = q
  ·rw [if_pos e] at hq
   cases hq
   subst e
   refine ⟨_,hr,.inr (fun hrel => ?_)⟩
   obtain ⟨us,e1,h1⟩:=hrel
   exact ⟨us,e1,relCs.nilOwn hZ hst (fun o ho => by
    rw [qR,if_pos rfl] at ho
    cases ho
    exact ⟨rfl,by rw [a1];rfl⟩) href.2.2 href.1 h1⟩
  ·rw [if_neg e] at hq
   exact ⟨av,hq,.inl ⟨rfl,fun k' hk' => hst k' (fun e => hF.2.1 q av hq (e ▸ hk'))⟩⟩
 ·rcases hlk q o' hq with ⟨rfl,rfl⟩|⟨hne,hq⟩
  ·refine ⟨⟨[],?_,hk,rdR.nil hk⟩,fun c hc => ?_,?_⟩
   ·rw [a1]
    exact ⟨by simp [Obj.len],.inl ⟨rfl,rfl,rfl⟩⟩
   ·rw [hfpK] at hc;cases hc
   ·rw [hfpK];exact List.nodup_nil
  ·exact RowOK.keep h.ok1 h.rows h.disj hq hZ (fun q' hq' => hst q' (fun e => hF.2.2 q o' hq (e ▸ hq'))) (a4 q hne).1 (a4 q hne).2 rfl (fun c _ => rfl)
 ·rcases hlk p o1 hp with ⟨rfl,rfl⟩|⟨hne,hp'⟩
  ·rw [hfpK] at hc;cases hc
  ·rcases hlk q u1 hq with ⟨rfl,rfl⟩|⟨hne',hq'⟩
   ·rw [hfpK] at hc';cases hc'
   ·rw [hfp p o1 hne] at hc
    rw [hfp q u1 hne'] at hc'
    exact h.disj p o1 q u1 hp' hq' hpq c hc hc'
theorem qZ.nilOwn {l:List Oper} {Q:St→Prop} (r K:Nat) {k:Nat} {pre post:List AC} (hr:look r s.regs = some (.agg (pre ++ .nil :: post))) (hk:0 < k) (hF:fresh s K = true)
  (h:qZ P cfg M ops l Q ⟨insR r (.agg (pre ++ .own K 0 :: post)) s.regs,insR K (.row k [] false) s.heap⟩):qZ P cfg M ops l Q s:=by
 intro w0 Ok σ a w Q' hM hS hQ
 obtain ⟨σ',h1⟩:=hS.nilOwn hr hk (xO hF)
 exact h w0 Ok σ' a w Q' hM h1 hQ
structure AFnS (P:Program) (f:FuncId) (ds:List (List D)) (cs:List D):Prop where
 call:∀ args w,(callFunc f args).run P w = .ok (.enter f args) w
 fn:∀ (A:Nat→Prop) w vs,(∀ b,A b→b < w.heap.size)→jX A w ds vs→Calls P f vs.toArray w (fun e w' => ∃ us,e = .returned (.agg us.toArray)∧Below w.heap.size w w'∧rdCs (fun b => A b ∨ w.heap.size ≤ b) w' us cs)
def EndsS (cfg:Cfg) (fn:Func) (cs:List D) (e:Exit) (s:St):Prop :=
 (e = .normal ∨ e = .ret)∧∃ t ty key o z,fn.results = #[.cell t ty]∧look t s.regs = some (.optr key 0 0)∧look key s.heap = some o∧rowA o = some (cs.map .val)∧cfg.ty ty = some (z,true)∧z.length = cs.length
theorem AFnS.of_runs (C:CfgOK P cfg) {f:FuncId} {fn:Func} {c:Code} (hf:P.funcs[f]? = some fn) (hb:fn.body = some c) (hname:(fn.name == "runtime.NumGoroutine") = false) (hN:fn.ntmps = cfg.N) {ds:List (List D)} (hd:ds.length ≤ fn.ntmps) {cs:List D}
  (h:∀ M,qA P cfg M c (EndsS cfg fn cs) ⟨qV 0 ds,[]⟩):AFnS P f ds cs:=by
 refine ⟨enters_of hf hname hb,fun A w vs hA hv => ?_⟩
 have hlen:=hv.len
 refine calls_of_wp hf hb ?_
 have hS:=start_sim (A:=A) (N:=cfg.N) (n:=fn.ntmps - vs.length) hv (by omega)
 refine h _ ⟨w,fun _ => False⟩ A _ _ w _ rfl (by simpa using hS) (fun e s' hE σ' a' w' hS' => ?_)
 obtain ⟨he,t,ty,key,o,z,hres,ht,hk,hr,hty,hzl⟩:=hE
 obtain ⟨zv,ti,d,t1,t2,t3,t4,t5,t6,t7,t8⟩:=C.ty ty z true hty
 obtain ⟨hlen1,hkp,us,hul,hrow,hus⟩:=hS'.rowA hk hr
 obtain ⟨_,b,hg,ep⟩:=hS'.regs t _ ht o hk
 rw [Nat.zero_mul,Nat.zero_add] at ep
 rw [hg] at hrow
 have hrd:=hus.toD
 have hcl:us.length = cs.length:=hrd.len
 have hrange:w'.rangeAt b 0 us:=fun q v hq => by rw [Nat.zero_add];exact hrow.cells q v hq
 have hi:(P.info? ty).map (·.size) = some us.length:=by rw [t1,hcl,← hzl,← t3];rfl
 have hload:(loadVar ty ⟨b,0,none⟩).run P w' = .ok (.agg us.toArray) w':=run_loadVar_mid w' b 0 ty us d hrange t6 t7 hi
 have ep':a'.tmps.getD t undef = .pointer (some ⟨b,0,none⟩):=ep
 have hrun:(results fn a'.tmps).run P w' = .ok (.agg us.toArray) w':=by
  unfold results
  rw [hres,Array.mapM_eq_mapM_toList]
  rw [Array.getD_eq_getD_getElem?] at ep'
  simp [ep',asAddr,hload]
 have hm:∀ b,Zn σ' s'.heap w' b→b < w'.heap.size→A b ∨ w.heap.size ≤ b:=fun b hb _ => by
  rcases hS'.ok2 b hb.2.1 with h1|h1
  ·exact .inl h1
  ·rcases h1 with h1|h1
   ·exact .inr h1
   ·exact h1.elim
 have hfin:a'.defers = []∧∃ v,(results fn a'.tmps).run P w' = .ok v w'∧∃ us,Ending.returned v = .returned (.agg us.toArray)∧Below w.heap.size w w'∧rdCs (fun b => A b ∨ w.heap.size ≤ b) w' us cs:=⟨hS'.defers,_,hrun,us,rfl,hS'.below.below,hrd.mono hm⟩
 rcases he with rfl|rfl <;> exact hfin
theorem qZ.callS (C:CfgOK P cfg) {o:Oper} {l:List Oper} {Q:St→Prop} (hg:o.guard = Option.none) {d:Nat} (hd:o.dst = some d) (hdN:d < cfg.N) {f:Operand} {args:Array Operand} {ts:Array TypeId} (ho:o.op = .call ⟨.value f,args,ts⟩) {g:FuncId} (hf:((opv s.regs f).bind avD).bind fnId = some g)
  {ds:List (List D)} (hds:aargs cfg (fun k => look k s.heap) s.regs args.toList ts.toList = some ds) (hs:jQ s.regs args.toList = []) {cs:List D} (hfn:AFnS P g ds cs) (h:qZ P cfg M ops l Q ⟨insR d (.agg (cs.map .val)) s.regs,s.heap⟩):qZ P cfg M ops (o :: l) Q s:=by
 intro w0 Ok σ a w Q' hM hS hQ
 refine wpList_step (fun K hK => ?_)
 have hw:qM ops s.regs o = some true:=by unfold qM;rw [hg]
 rw [xB hS hw]
 simp only [if_true]
 obtain ⟨_,l2⟩:=kC C hS hds
 have hfv:a.eval f = .func (.func g) #[] #[]:=qC0 hS hf
 have hrun:(execOp a.eval o).run P w = .ok (.enter g (args.map a.eval)) w:=by
  unfold execOp
  rw [ho]
  simp [resolve,Deferred.ofValue,hfv,invoke,hfn.call]
 have hcall:=hfn.fn (Zn σ s.heap w) w (args.toList.map a.eval) (fun _ h => h.1) (l2 hs)
 unfold Oper.wp
 rw [hrun,Oper.upon_enter]
 have e:(args.toList.map a.eval).toArray = args.map a.eval:=by rw [← Array.toList_map,Array.toArray_toList]
 rw [← e]
 refine hcall.mono ?_
 rintro e w' ⟨us,rfl,hB,hrd⟩
 have hS1:=hS.world hB
 have hrd':rdCs (Zn σ s.heap w') w' us cs:=hrd.mono (fun b hb hlt => jV.grown hB hS (fun _ h => h) b hb hlt)
 show K (a.put o.dst _) _
 rw [hd]
 exact hK _ _ (h w0 Ok σ _ _ Q' hM (Sim.ins hS1 hdN ⟨us,rfl,hrd'.toA⟩) hQ)
end
end
section
theorem a_place (X:List (List D)) (t:List Int) (h:canT t = true) (hl:t.length ≤ 6):AFn Tryz.prog 167 [[.sl 1 (T6.map eL),.sl 1 X],[.sl 1 (t.map eI)]] (· = [.val (.int (plc t))]):=by
 obtain ⟨p1,p2,p3,p4⟩:=plc_at h hl
 have hix:=a_indexIn T6 t (posT t) (by rw [T6_len];omega) p1 p2 p3 p4
 rw [T6_len] at p1
 have hw:=qB (n:=posT t) (by omega)
 simp only [eL,eLL] at hix
 refine AFn.of_runs (qQ 10) Tryz.func167 rfl rfl rfl gz ?_
 have hres:Tryz.f167.results.toList = [.tmp 4]:=rfl
 have hrts:Tryz.f167.resultTypes.toList = [3]:=rfl
 simp only [qV,qT,eL,eI,eLL,eB,Nat.zero_add,Nat.reduceAdd]
 intro M
 refine qJ.of ?_
 refine gw140 hw ?_
 exact gw141
theorem s_newForms:AFnS Tryz.prog 108 [] frmD:=by
 have hto:AFn Tryz.prog 113 [[.int 6]] (· = [.val (.sl 1 (T6.map eL))]):=AFn.val1 (a_treesTo 6 (by decide))
 obtain ⟨T,hT⟩:∃ T,T = T6.map eL:=⟨_,rfl⟩
 have hTl:T.length = 37:=by rw [hT,List.length_map,T6_len]
 rw [← hT] at hto
 have hfin:frmD = [.sl 1 T,.sl 1 ((T6.map cutsM).map eMs)]:=by rw [hT];rfl
 rw [hfin]
 refine AFnS.of_runs (qQ 68) Tryz.func108 rfl rfl rfl gz ?_
 simp only [qV,qT,eL,eI,eLL,eB,Nat.zero_add,Nat.reduceAdd]
 intro M
 refine qJ.of ?_
 ((refine gw142 Y0 ?_);with_reducible (apply QS (qQ 68) Tab.none;refine QW ?_;simp only [Zg,Zi,seval,reduceCtorEq,Nat.reduceEqDiff];rfl);(refine gw142 Y0 ?_))
 ((refine gw142 Y0 ?_);(with_reducible refine qJ.regCut (qQ 68) (Tab.none.at' 113 hto) 3 (s1:=?_) ?_ ?_);rotate_left 1;(focus ((with_reducible refine QW ?_);simp only [Zg,Zi,seval,reduceCtorEq,Nat.reduceEqDiff];with_reducible rfl));simp only [List.toList_toArray,List.drop_succ_cons,List.drop_zero])
 refine qZ.nilOwn 11 5001 (k:=1) (pre:=[.val (.sl 1 T)]) (post:=[]) rfl (by decide) rfl ?_
 refine qZ.storeA (qQ 68) (key:=1) (j:=0) rfl rfl rfl rfl rfl rfl (cs:=[.val (.sl 1 T),.own 5001 0]) rfl rfl rfl (r:=[.val (.sl 1 []),.val (.sl 1 [])]) rfl (Nat.le_of_ble_eq_true rfl) ?_
 refine qZ.nil ?_
 ((refine gw142 Y0 ?_);(with_reducible refine qJ.regCut (qQ 68) Tab.none 1 (s1:=?_) ?_ ?_);rotate_left 1;(focus ((with_reducible refine QW ?_);simp only [Zg,Zi,seval,reduceCtorEq,Nat.reduceEqDiff];with_reducible rfl));simp only [List.toList_toArray,List.drop_succ_cons,List.drop_zero])
 refine qZ.loadA (qQ 68) (d:=13) rfl rfl rfl (by decide) rfl rfl (cs:=[.val (.sl 1 T),.own 5001 0]) rfl (av:=.c (.val (.sl 1 T))) rfl ?_
 (refine qZ.opsT (qQ 68) (T:=Tab.none) (s':=?_) ?_ ?_;rotate_left 1;focus (simp only [Zg,Zi,seval,reduceCtorEq,Nat.reduceEqDiff,hTl];with_reducible rfl))
 refine qJ.loop (β:=Nat) (γ:=Unit) (fun i => ⟨[(0,.optr 0 0 0),(1,.optr 1 0 0),(13,.c (.val (.sl 1 T))),(14,.c (.val (.int 37))),(15,.c (.val (.int i)))],[(0,.row 2 [[.sl 1 [],.sl 1 []]] true),(1,.lit 2 [[.val (.sl 1 T),.own 5001 i]]),(5001,.row 1 (((T6.take i).map cutsM).map eMs) false)]⟩) (fun i => i ≤ 37) (fun i => 37 - i)
  (fun _ => ⟨[(0,.optr 0 0 0),(1,.optr 1 0 0)],[(0,.row 2 [[.sl 1 [],.sl 1 []]] true),(1,.lit 2 [[.val (.sl 1 T),.own 5001 37]]),(5001,.row 1 ((T6.map cutsM).map eMs) false)]⟩) (fun _ => True) 0 (Nat.zero_le _) ?_ ?_ ?_
 ·(repeat' (first|exact Qn|((with_reducible refine Qr ?_ ?_);focus first|with_reducible rfl|(simp only [Zz,Nat.reduceBEq,List.take_zero,List.map_nil,Int.natCast_zero];done)|rfl)|((with_reducible apply Qj);rfl)|((with_reducible refine Qw ?_ ?_);(focus first|with_reducible rfl|(simp only [Zv,List.take_zero,List.map_nil,Int.natCast_zero];done));first|exact id|exact nofun|exact fun _=>rfl)))
  all_goals exact ⟨rfl,rfl⟩
 ·intro i hi
  have hi:i ≤ 37:=hi
  have hw:=qB (n:=i) (by omega)
  by_cases hi37:i < 37
  ·have i1:((i:Int) < 37) = True:=eq_true (by omega)
   have i2:((0:Int) ≤ (i:Int)) = True:=eq_true (by omega)
   have hiT:i < T6.length:=by rw [T6_len];exact hi37
   obtain ⟨t,ht⟩:∃ t,t = T6[i]:=⟨_,rfl⟩
   have htm:t ∈ T6:=by rw [ht];exact List.getElem_mem _
   have hg:T[i]? = some [.sl 1 (t.map eI)]:=by rw [hT,qD hiT,ht];rfl
   have htk:((T6.take (i + 1)).map cutsM).map eMs = ((T6.take i).map cutsM).map eMs ++ [[.sl 3 ((cutsM t).map eM)]]:=by
    rw [ht,List.take_succ_eq_append_getElem hiT,List.map_append,List.map_append];rfl
   obtain ⟨R,hR⟩:∃ R,R = ((T6.take i).map cutsM).map eMs:=⟨_,rfl⟩
   have hRl:R.length = i:=by rw [hR,List.length_map,List.length_map,List.length_take];omega
   rw [← hR] at htk ⊢
   obtain ⟨hct,hcl⟩:=T6_ok t htm
   obtain ⟨hlev,_⟩:=canT_lev hct
   have hcu:AFn Tryz.prog 58 [[.sl 1 (t.map eI)]] (· = [.val (.sl 3 ((cutsL t).map eCu))]):=AFn.valT (a_cutsOf t hlev (by omega))
   obtain ⟨hLn,hLok⟩:=cuts6 htm
   obtain ⟨L,hL⟩:∃ L,L = cutsL t:=⟨_,rfl⟩
   have hcm:cutsM t = L.map mcut:=by rw [hL];rfl
   rw [hcm] at htk
   rw [← hL] at hcu hLn hLok
   have hLm:(L.map eCu).length = L.length:=List.length_map _
   refine gw143 (Y4 i1 i2 hg hTl) ?_
   refine qJ.loop (β:=Nat) (γ:=Unit) (fun j => ⟨[(0,.optr 0 0 0),(1,.optr 1 0 0),(4,.c (.own 4 j)),(13,.c (.val (.sl 1 T))),(14,.c (.val (.int 37))),(15,.c (.val (.int i))),(21,.c (.val (.sl 3 (L.map eCu)))),(22,.c (.val (.int L.length))),(23,.c (.val (.int j)))],[(0,.row 2 [[.sl 1 [],.sl 1 []]] true),(1,.lit 2 [[.val (.sl 1 T),.own 5001 i]]),(4,.row 3 (((L.take j).map mcut).map eM) false),(5001,.row 1 R false)]⟩) (fun j => j ≤ L.length) (fun j => L.length - j)
    (fun _ => ⟨[(0,.optr 0 0 0),(1,.optr 1 0 0),(4,.c (.own 4 L.length)),(13,.c (.val (.sl 1 T))),(14,.c (.val (.int 37))),(15,.c (.val (.int i)))],[(0,.row 2 [[.sl 1 [],.sl 1 []]] true),(1,.lit 2 [[.val (.sl 1 T),.own 5001 i]]),(4,.row 3 ((L.map mcut).map eM) false),(5001,.row 1 R false)]⟩) (fun _ => True) 0 (Nat.zero_le _) ?_ ?_ ?_
   ·(repeat' (first|exact Qn|((with_reducible refine Qr ?_ ?_);focus first|with_reducible rfl|(simp only [Zz,Nat.reduceBEq,List.take_zero,List.map_nil,Int.natCast_zero];done)|rfl)|((with_reducible apply Qj);rfl)|((with_reducible refine Qw ?_ ?_);(focus first|with_reducible rfl|(simp only [Zv,List.take_zero,List.map_nil,Int.natCast_zero];done));first|exact id|exact nofun|exact fun _=>rfl)))
    all_goals exact ⟨rfl,rfl⟩
   ·intro j hj
    have hj:j ≤ L.length:=hj
    have hwj:=qB (n:=j) (by omega)
    by_cases hjL:j < L.length
    ·have j1:((j:Int) < (L.length:Int)) = True:=eq_true (by omega)
     have j2:((0:Int) ≤ (j:Int)) = True:=eq_true (by omega)
     obtain ⟨x,hx⟩:∃ x,x = L[j]:=⟨_,rfl⟩
     have hxg:(L.map eCu)[j]? = some [.sl 1 (x.1.1.map eL),.sl 1 (x.1.2.map eI),.int x.2]:=by rw [qD hjL,hx];rfl
     obtain ⟨hx1,hx2,hx3,hx4⟩:=hLok L[j] (List.getElem_mem _)
     rw [← hx] at hx1 hx2 hx3 hx4
     have hxk:((L.take (j + 1)).map mcut).map eM = ((L.take j).map mcut).map eM ++ [eM (mcut x)]:=by
      rw [hx,List.take_succ_eq_append_getElem hjL,List.map_append,List.map_append];rfl
     have hrl:(((L.take j).map mcut).map eM).length = j:=by rw [List.length_map,List.length_map,List.length_take];omega
     obtain ⟨⟨cr,tr⟩,n⟩:=x
     simp only at hxg hx1 hx2 hx3 hx4
     have q1:=jJ (n:=j + 1) (by omega)
     have q2:=qP (n:=j + 1) (c:=40) (by omega) (by omega)
     ((refine gw142 j1 ?_);with_reducible (apply QS (qQ 68) Tab.none;refine QW ?_;simp only [Zg,Zi,seval,reduceCtorEq,Nat.reduceEqDiff,j1];rfl);(refine gw142 j1 ?_))
     ((refine gw144 (Y4 j1 j2 hxg hLm) ?_);with_reducible (apply QS (qQ 68) Tab.none;refine QW ?_;simp only [Zg,Zi,seval,reduceCtorEq,Nat.reduceEqDiff,j1,j2,hxg,hLm,Int.toNat_natCast];rfl);(refine gw144 (Y4 j1 j2 hxg hLm) ?_))
     ((refine gw142 Y0 ?_);(with_reducible refine qJ.regCut (qQ 68) Tab.none 4 (s1:=?_) ?_ ?_);rotate_left 1;(focus ((with_reducible refine QW ?_);simp only [Zg,Zi,seval,reduceCtorEq,Nat.reduceEqDiff];with_reducible rfl));simp only [List.toList_toArray,List.drop_succ_cons,List.drop_zero])
     refine qZ.nilOwn 29 5007 (k:=1) (pre:=[.val (.int n)]) (post:=[.val (.int 0)]) rfl (by decide) rfl ?_
     refine qZ.storeA (qQ 68) (key:=7) (j:=0) rfl rfl rfl rfl rfl rfl (cs:=[.val (.int n),.own 5007 0,.val (.int 0)]) rfl rfl rfl (r:=[.val (.int 0),.val (.sl 1 []),.val (.int 0)]) rfl (Nat.le_of_ble_eq_true rfl) ?_
     refine qZ.nil ?_
     have hcm':(cr.map eL).length = cr.length:=List.length_map _
     refine gw145 hcm' ?_
     refine qJ.loop (β:=Nat) (γ:=Unit) (fun q => ⟨[(0,.optr 0 0 0),(1,.optr 1 0 0),(4,.c (.own 4 j)),(6,.optr 6 0 0),(7,.optr 7 0 0),(13,.c (.val (.sl 1 T))),(14,.c (.val (.int 37))),(15,.c (.val (.int i))),(21,.c (.val (.sl 3 (L.map eCu)))),(22,.c (.val (.int L.length))),(23,.c (.val (.int j))),(31,.c (.val (.sl 1 (cr.map eL)))),(32,.c (.val (.int cr.length))),(33,.c (.val (.int q)))],[(0,.row 2 [[.sl 1 [],.sl 1 []]] true),(1,.lit 2 [[.val (.sl 1 T),.own 5001 i]]),(4,.row 3 (((L.take j).map mcut).map eM) false),(6,.row 3 [[.sl 1 (cr.map eL),.sl 1 (tr.map eI),.int n]] false),(7,.lit 3 [[.val (.int n),.own 5007 q,.val (.int 0)]]),(5001,.row 1 R false),(5007,.row 1 (((cr.take q).map plc).map eI) false)]⟩) (fun q => q ≤ cr.length) (fun q => cr.length - q)
      (fun _ => ⟨[(0,.optr 0 0 0),(1,.optr 1 0 0),(4,.c (.own 4 j)),(6,.optr 6 0 0),(7,.optr 7 0 0),(13,.c (.val (.sl 1 T))),(14,.c (.val (.int 37))),(15,.c (.val (.int i))),(21,.c (.val (.sl 3 (L.map eCu)))),(22,.c (.val (.int L.length))),(23,.c (.val (.int j)))],[(0,.row 2 [[.sl 1 [],.sl 1 []]] true),(1,.lit 2 [[.val (.sl 1 T),.own 5001 i]]),(4,.row 3 (((L.take j).map mcut).map eM) false),(6,.row 3 [[.sl 1 (cr.map eL),.sl 1 (tr.map eI),.int n]] false),(7,.lit 3 [[.val (.int n),.own 5007 cr.length,.val (.int 0)]]),(5001,.row 1 R false),(5007,.row 1 ((cr.map plc).map eI) false)]⟩) (fun _ => True) 0 (Nat.zero_le _) ?_ ?_ ?_
     ·(repeat' (first|exact Qn|((with_reducible refine Qr ?_ ?_);focus first|with_reducible rfl|(simp only [Zz,Nat.reduceBEq,List.take_zero,List.map_nil,Int.natCast_zero];done)|rfl)|((with_reducible apply Qj);rfl)|((with_reducible refine Qw ?_ ?_);(focus first|with_reducible rfl|(simp only [Zv,List.take_zero,List.map_nil,Int.natCast_zero];done));first|exact id|exact nofun|exact fun _=>rfl)))
      all_goals exact ⟨rfl,rfl⟩
     ·intro q hq
      have hq:q ≤ cr.length:=hq
      have hwq:=qB (n:=q) (by omega)
      by_cases hqc:q < cr.length
      ·have k1:((q:Int) < (cr.length:Int)) = True:=eq_true (by omega)
       have k2:((0:Int) ≤ (q:Int)) = True:=eq_true (by omega)
       obtain ⟨c,hc⟩:∃ c,c = cr[q]:=⟨_,rfl⟩
       have hcg:(cr.map eL)[q]? = some [.sl 1 (c.map eI)]:=by rw [qD hqc,hc];rfl
       have hck:((cr.take (q + 1)).map plc).map eI = ((cr.take q).map plc).map eI ++ [[.int (plc c)]]:=by
        rw [hc,List.take_succ_eq_append_getElem hqc,List.map_append,List.map_append];rfl
       obtain ⟨C,hC⟩:∃ C,C = ((cr.take q).map plc).map eI:=⟨_,rfl⟩
       have hCl:C.length = q:=by rw [hC,List.length_map,List.length_map,List.length_take];omega
       obtain ⟨c1,c2⟩:=hx2 cr[q] (List.getElem_mem _)
       rw [← hc] at c1 c2
       have hpl:=a_place R c c1 c2
       rw [← hT] at hpl
       rw [← hC] at hck ⊢
       have r1:=jJ (n:=q + 1) (by omega)
       have r2:=qP (n:=q + 1) (c:=8) (by omega) (by omega)
       have r3:(q ≤ 140737488355327) = True:=eq_true (by omega)
       ((refine gw142 k1 ?_);with_reducible (apply QS (qQ 68) Tab.none;refine QW ?_;simp only [Zg,Zi,seval,reduceCtorEq,Nat.reduceEqDiff,k1];rfl);(refine gw142 k1 ?_))
       ((refine gw144 (Y4 k1 k2 hcg hcm') ?_);with_reducible (apply QS (qQ 68) Tab.none;refine QW ?_;simp only [Zg,Zi,seval,reduceCtorEq,Nat.reduceEqDiff,k1,k2,hcg,hcm',Int.toNat_natCast];rfl);(refine gw144 (Y4 k1 k2 hcg hcm') ?_))
       ((refine gw142 Y0 ?_);(with_reducible refine qJ.wFl (qQ 68) (Tab.none.at' 167 hpl) qK [42] [38,39] (tr:=?_) (s1:=?_) (rest:=?_) ?_ ?_ ?_);rotate_left 3;(focus ((with_reducible refine QW ?_);simp only [Zg,Zd,Zi,seval,reduceCtorEq,Nat.reduceEqDiff,drunL,devalL,devalA,vX,aloadA,rowA,drunF,kT,devalB,valD,wU,List.contains_cons,List.contains_nil];with_reducible rfl));focus ((with_reducible refine QK ?_);simp only [Zk];kernel_rfl))
       refine qZ.killL 7 5007 (k:=3) (r:=[.val (.int n),.own 5007 q,.val (.int 0)]) rfl ?_
       ((with_reducible refine qZ.cut (qQ 68) Tab.none 1 (s1:=?_) ?_ ?_);rotate_left 1;(focus ((with_reducible refine QW ?_);simp only [Zg,Zi,seval,reduceCtorEq,Nat.reduceEqDiff,hCl,r1,r2,r3,List.map_cons,List.map_nil,AC.kill];with_reducible rfl));simp only [List.drop_succ_cons,List.drop_zero])
       refine qZ.renR 43 5007 (by decide) rfl rfl rfl ?_
       ((with_reducible refine qZ.cut (qQ 68) Tab.none 1 (s1:=?_) ?_ ?_);rotate_left 1;(focus ((with_reducible refine QW ?_);simp only [Zg,Zi,seval,reduceCtorEq,Nat.reduceEqDiff];with_reducible rfl));simp only [List.drop_succ_cons,List.drop_zero])
       refine qZ.storeA (qQ 68) (key:=7) (j:=1) rfl rfl rfl rfl rfl rfl (cs:=[.own 5007 (q + 1)]) rfl rfl rfl (r:=[.val (.int n),.junk,.val (.int 0)]) rfl (Nat.le_of_ble_eq_true rfl) ?_
       refine qZ.nil ?_
       refine gw145 hwq ?_
       refine qY.on (q + 1) ⟨hqc,by omega⟩ ?_
       rw [hck]
       (repeat' (first|exact Qn|((with_reducible refine Qr ?_ ?_);focus first|with_reducible rfl|(simp only [Zz,Nat.reduceBEq];done)|rfl)|((with_reducible apply Qj);rfl)|((with_reducible refine Qw ?_ ?_);(focus first|with_reducible rfl|(simp only [Zv];done));first|exact id|exact nofun|exact fun _=>rfl)))
       all_goals exact ⟨rfl,rfl⟩
      ·have k1:((q:Int) < (cr.length:Int)) = False:=eq_false (by omega)
       obtain rfl:q = cr.length:=by omega
       refine gw145 k1 ?_
       refine qY.out () trivial ?_
       rw [List.take_length]
       (repeat' (first|exact Qn|((with_reducible refine Qr ?_ ?_);focus first|with_reducible rfl|(simp only [Zz,Nat.reduceBEq];done)|rfl)|((with_reducible apply Qj);rfl)|((with_reducible refine Qw ?_ ?_);(focus first|with_reducible rfl|(simp only [Zv];done));first|exact id|exact nofun|exact fun _=>rfl)))
       all_goals exact ⟨rfl,rfl⟩
     ·rintro _ _
      refine qJ.frz 5007 ?_
      refine qJ.fits (s0:=⟨[(0,.optr 0 0 0),(1,.optr 1 0 0),(4,.c (.own 4 j)),(6,.optr 6 0 0),(7,.optr 7 0 0),(13,.c (.val (.sl 1 T))),(14,.c (.val (.int 37))),(15,.c (.val (.int i))),(21,.c (.val (.sl 3 (L.map eCu)))),(22,.c (.val (.int L.length))),(23,.c (.val (.int j)))],[(0,.row 2 [[.sl 1 [],.sl 1 []]] true),(1,.lit 2 [[.val (.sl 1 T),.own 5001 i]]),(4,.row 3 (((L.take j).map mcut).map eM) false),(6,.row 3 [[.sl 1 (cr.map eL),.sl 1 (tr.map eI),.int n]] false),(7,.lit 3 [[.val (.int n),.val (.sl 1 ((cr.map plc).map eI)),.val (.int 0)]]),(5001,.row 1 R false)]⟩) ?_ ?_
      ·(repeat' (first|exact Qn|((with_reducible refine Qr ?_ ?_);focus first|with_reducible rfl|(simp only [Zz,Nat.reduceBEq,St.frz,frzR,frzH,look,AV.frz,AC.frz,Obj.frz,drop];done)|rfl)|((with_reducible apply Qj);rfl)|((with_reducible refine Qw ?_ ?_);(focus first|with_reducible rfl|(simp only [Zv,St.frz,frzR,frzH,look,AV.frz,AC.frz,Obj.frz,drop];done));first|exact id|exact nofun|exact fun _=>rfl)))
       all_goals first|exact ⟨rfl,rfl⟩|exact ⟨rfl,rfl,id⟩
      refine qJ.litRow 7 [.int n,.sl 1 ((cr.map plc).map eI),.int 0] rfl ?_
      by_cases htr:tr = []
      ·subst htr
       have t1:((([]:List Int).length:Int) > 0) = False:=eq_false (by simp)
       have hmc:eM (mcut ((cr,[]),n)) = [.int n,.sl 1 ((cr.map plc).map eI),.int 0]:=rfl
       rw [hmc] at hxk
       refine gw146 (Y5 t1 hrl hwj q1 q2) ?_
       refine qY.on (j + 1) ⟨hjL,by omega⟩ ?_
       rw [hxk]
       (repeat' (first|exact Qn|((with_reducible refine Qr ?_ ?_);focus first|with_reducible rfl|(simp only [Zz,Nat.reduceBEq];done)|rfl)|((with_reducible apply Qj);rfl)|((with_reducible refine Qw ?_ ?_);(focus first|with_reducible rfl|(simp only [Zv];done));first|exact id|exact nofun|exact fun _=>rfl)))
       all_goals exact ⟨rfl,rfl⟩
      ·obtain ⟨d1,d2⟩:=hx4.resolve_left htr
       have htl:0 < tr.length:=List.length_pos_iff.2 htr
       have t1:((tr.length:Int) > 0) = True:=eq_true (by omega)
       have hmc:eM (mcut ((cr,tr),n)) = [.int n,.sl 1 ((cr.map plc).map eI),.int (plc tr)]:=by
        unfold mcut eM
        simp only [if_neg htr]
       rw [hmc] at hxk
       have hpl:=a_place R tr d1 d2
       rw [← hT] at hpl
       ((refine gw147 t1 ?_);with_reducible (apply QS (qQ 68) Tab.none;refine QW ?_;simp only [Zg,Zi,seval,reduceCtorEq,Nat.reduceEqDiff,t1,List.length_map];rfl);(refine gw147 t1 ?_))
       ((refine gw142 t1 ?_);(with_reducible refine qJ.regCut (qQ 68) Tab.none 0 (s1:=?_) ?_ ?_);rotate_left 1;(focus ((with_reducible refine QW ?_);simp only [Zg,Zi,seval,reduceCtorEq,Nat.reduceEqDiff,t1];with_reducible rfl));simp only [List.toList_toArray,List.drop_succ_cons,List.drop_zero])
       refine qZ.loadA (qQ 68) (d:=50) rfl rfl rfl (by decide) rfl rfl (cs:=[.val (.sl 1 T),.own 5001 i]) rfl (av:=.agg [.val (.sl 1 T),.own 5001 i]) rfl ?_
       (refine qZ.opsT (qQ 68) (T:=Tab.none.at' 167 hpl) (s':=?_) ?_ ?_;rotate_left 1;focus (simp only [Zg,Zi,seval,reduceCtorEq,Nat.reduceEqDiff];with_reducible rfl))
       refine gw146 (Y4 hrl hwj q1 q2) ?_
       refine qY.on (j + 1) ⟨hjL,by omega⟩ ?_
       rw [hxk]
       (repeat' (first|exact Qn|((with_reducible refine Qr ?_ ?_);focus first|with_reducible rfl|(simp only [Zz,Nat.reduceBEq];done)|rfl)|((with_reducible apply Qj);rfl)|((with_reducible refine Qw ?_ ?_);(focus first|with_reducible rfl|(simp only [Zv];done));first|exact id|exact nofun|exact fun _=>rfl)))
       all_goals exact ⟨rfl,rfl⟩
    ·have j1:((j:Int) < (L.length:Int)) = False:=eq_false (by omega)
     obtain rfl:j = L.length:=by omega
     refine gw145 j1 ?_
     refine qY.out () trivial ?_
     rw [List.take_length]
     (repeat' (first|exact Qn|((with_reducible refine Qr ?_ ?_);focus first|with_reducible rfl|(simp only [Zz,Nat.reduceBEq];done)|rfl)|((with_reducible apply Qj);rfl)|((with_reducible refine Qw ?_ ?_);(focus first|with_reducible rfl|(simp only [Zv];done));first|exact id|exact nofun|exact fun _=>rfl)))
     all_goals exact ⟨rfl,rfl⟩
   ·rintro _ _
    refine qJ.frz 4 ?_
    refine qJ.fits (s0:=⟨[(0,.optr 0 0 0),(1,.optr 1 0 0),(4,.c (.val (.sl 3 ((L.map mcut).map eM)))),(13,.c (.val (.sl 1 T))),(14,.c (.val (.int 37))),(15,.c (.val (.int i)))],[(0,.row 2 [[.sl 1 [],.sl 1 []]] true),(1,.lit 2 [[.val (.sl 1 T),.own 5001 i]]),(5001,.row 1 R false)]⟩) ?_ ?_
    ·(repeat' (first|exact Qn|((with_reducible refine Qr ?_ ?_);focus first|with_reducible rfl|(simp only [Zz,Nat.reduceBEq,St.frz,frzR,frzH,look,AV.frz,AC.frz,Obj.frz,drop];done)|rfl)|((with_reducible apply Qj);rfl)|((with_reducible refine Qw ?_ ?_);(focus first|with_reducible rfl|(simp only [Zv,St.frz,frzR,frzH,look,AV.frz,AC.frz,Obj.frz,drop];done));first|exact id|exact nofun|exact fun _=>rfl)))
     all_goals first|exact ⟨rfl,rfl⟩|exact ⟨rfl,rfl,id⟩
    have q1:=jJ (n:=i + 1) (by omega)
    have q2:=qP (n:=i + 1) (c:=24) (by omega) (by omega)
    ((refine gw142 Y0 ?_);(with_reducible refine qJ.regCut (qQ 68) Tab.none 1 (s1:=?_) ?_ ?_);rotate_left 1;(focus ((with_reducible refine QW ?_);simp only [Zg,Zi,seval,reduceCtorEq,Nat.reduceEqDiff];with_reducible rfl));simp only [List.toList_toArray,List.drop_succ_cons,List.drop_zero])
    refine qZ.loadA (qQ 68) (d:=61) rfl rfl rfl (by decide) rfl rfl (cs:=[.own 5001 i]) rfl (av:=.c (.own 5001 i)) rfl ?_
    ((with_reducible refine qZ.cut (qQ 68) Tab.none 2 (s1:=?_) ?_ ?_);rotate_left 1;(focus ((with_reducible refine QW ?_);simp only [Zg,Zi,seval,reduceCtorEq,Nat.reduceEqDiff];with_reducible rfl));simp only [List.drop_succ_cons,List.drop_zero])
    refine qZ.killL 1 5001 (k:=2) (r:=[.val (.sl 1 T),.own 5001 i]) rfl ?_
    ((with_reducible refine qZ.cut (qQ 68) Tab.none 1 (s1:=?_) ?_ ?_);rotate_left 1;(focus ((with_reducible refine QW ?_);simp only [Zg,Zi,seval,reduceCtorEq,Nat.reduceEqDiff,hRl,q1,q2,List.map_cons,List.map_nil,AC.kill];with_reducible rfl));simp only [List.drop_succ_cons,List.drop_zero])
    refine qZ.renR 64 5001 (by decide) rfl rfl rfl ?_
    ((with_reducible refine qZ.cut (qQ 68) Tab.none 1 (s1:=?_) ?_ ?_);rotate_left 1;(focus ((with_reducible refine QW ?_);simp only [Zg,Zi,seval,reduceCtorEq,Nat.reduceEqDiff];with_reducible rfl));simp only [List.drop_succ_cons,List.drop_zero])
    refine qZ.storeA (qQ 68) (key:=1) (j:=1) rfl rfl rfl rfl rfl rfl (cs:=[.own 5001 (i + 1)]) rfl rfl rfl (r:=[.val (.sl 1 T),.junk]) rfl (Nat.le_of_ble_eq_true rfl) ?_
    refine qZ.nil ?_
    refine gw145 hw ?_
    refine qY.on (i + 1) ⟨by omega,by omega⟩ ?_
    rw [htk]
    (repeat' (first|exact Qn|((with_reducible refine Qr ?_ ?_);focus first|with_reducible rfl|(simp only [Zz,Nat.reduceBEq];done)|rfl)|((with_reducible apply Qj);rfl)|((with_reducible refine Qw ?_ ?_);(focus first|with_reducible rfl|(simp only [Zv];done));first|exact id|exact nofun|exact fun _=>rfl)))
    all_goals exact ⟨rfl,rfl⟩
  ·have i1:((i:Int) < 37) = False:=eq_false (by omega)
   obtain rfl:i = 37:=by omega
   refine gw145 i1 ?_
   refine qY.out () trivial ?_
   rw [List.take_of_length_le (by rw [T6_len];omega)]
   (repeat' (first|exact Qn|((with_reducible refine Qr ?_ ?_);focus first|with_reducible rfl|(simp only [Zz,Nat.reduceBEq];done)|rfl)|((with_reducible apply Qj);rfl)|((with_reducible refine Qw ?_ ?_);(focus first|with_reducible rfl|(simp only [Zv];done));first|exact id|exact nofun|exact fun _=>rfl)))
   all_goals exact ⟨rfl,rfl⟩
 ·rintro _ _
  refine qJ.frz 5001 ?_
  refine qJ.fits (s0:=⟨[(0,.optr 0 0 0),(1,.optr 1 0 0)],[(0,.row 2 [[.sl 1 [],.sl 1 []]] true),(1,.lit 2 [[.val (.sl 1 T),.val (.sl 1 ((T6.map cutsM).map eMs))]])]⟩) ?_ ?_
  ·(repeat' (first|exact Qn|((with_reducible refine Qr ?_ ?_);focus first|with_reducible rfl|(simp only [Zz,Nat.reduceBEq,St.frz,frzR,frzH,look,AV.frz,AC.frz,Obj.frz,drop];done)|rfl)|((with_reducible apply Qj);rfl)|((with_reducible refine Qw ?_ ?_);(focus first|with_reducible rfl|(simp only [Zv,St.frz,frzR,frzH,look,AV.frz,AC.frz,Obj.frz,drop];done));first|exact id|exact nofun|exact fun _=>rfl)))
   all_goals first|exact ⟨rfl,rfl⟩|exact ⟨rfl,rfl,id⟩
  refine qJ.litRow 1 [.sl 1 T,.sl 1 ((T6.map cutsM).map eMs)] rfl ?_
  refine gw145 Y0 ?_
  exact ⟨by simp,0,_,0,_,_,rfl,rfl,rfl,rfl,rfl,rfl⟩
end
section
def valM (a:List Int) (ps:List Int):Int:=ps.foldl (fun o p => mP (o * a.getD p.toNat 0)) 1
theorem valM_snoc (a ps:List Int) (p:Int):valM a (ps ++ [p]) = mP (valM a ps * a.getD p.toNat 0):=by unfold valM;rw [List.foldl_append];rfl
theorem valM_bd (a:List Int) (ps:List Int):0 ≤ valM a ps∧valM a ps < 10007:=by
 rcases List.eq_nil_or_concat ps with rfl|⟨l,x,rfl⟩
 ·exact (by decide:(0:Int) ≤ 1∧(1:Int) < 10007)
 ·rw [List.concat_eq_append,valM_snoc];exact mP_bd _
theorem isMap_bd {a:List Int} (h:isMap a = true):a.length = 38∧∀ i,0 ≤ a.getD i 0∧a.getD i 0 < 10007:=by
 unfold isMap at h
 rw [Bool.and_eq_true] at h
 refine ⟨of_decide_eq_true h.1,fun i => ?_⟩
 by_cases hi:i < a.length
 ·rw [yJ hi]
  have:=List.all_eq_true.1 h.2 _ (List.getElem_mem hi)
  unfold isNum inR at this
  simp at this
  omega
 ·rw [List.getD_eq_getElem?_getD,List.getElem?_eq_none (by omega)];decide
theorem mul_bdM {a b:Int} (h1:0 ≤ a∧a < 10007) (h2:0 ≤ b∧b < 10007):0 ≤ a * b∧a * b ≤ 100140049:=by
 refine ⟨Int.mul_nonneg h1.1 h2.1,?_⟩
 have:=Int.mul_le_mul (a:=a) (b:=b) (c:=10007) (d:=10007) (by omega) (by omega) h2.1 (by omega)
 omega
theorem a_impl_IsMap (a:List Int):AFn Tryz.prog 164 [eL a] (· = [.val (.bool (isMap a))]) :=
 afn_L_s (v:=.bool _) (enters_of Tryz.func164 rfl rfl) (fun _ _ => jP.2 rfl) (fun u w h => c_impl_IsMap u a w h)
theorem a_valueOf (a ps:List Int) (ha:isMap a = true) (hp:∀ p ∈ ps,0 ≤ p∧p < 38) (hl:ps.length ≤ 1000000):AFn Tryz.prog 168 [eL a,eL ps] (· = [.val (.int (valM a ps))]):=by
 obtain ⟨hal,hab⟩:=isMap_bd ha
 refine AFn.of_runs (qQ 23) Tryz.func168 rfl rfl rfl gz ?_
 have hres:Tryz.f168.results.toList = [.tmp 4]:=rfl
 have hrts:Tryz.f168.resultTypes.toList = [2]:=rfl
 simp only [qV,qT,eL,eI,eLL,eB,Nat.zero_add,Nat.reduceAdd]
 intro M
 refine qJ.of ?_
 refine gw148 ?_
 refine qJ.loop (β:=Nat) (γ:=Unit) (fun k => ⟨[(0,.c (.val (.sl 1 (a.map eI)))),(5,.c (.val (.int (valM a (ps.take k))))),(8,.c (.val (.sl 1 (ps.map eI)))),(9,.c (.val (.int ps.length))),(10,.c (.val (.int k)))],[]⟩) (fun k => k ≤ ps.length) (fun k => ps.length - k)
  (fun _ => ⟨[(5,.c (.val (.int (valM a ps))))],[]⟩) (fun _ => True) 0 (Nat.zero_le _) ?_ ?_ ?_
 ·exact gw149 (show valM a [] = 1 from rfl)
 ·intro k hk
  have hk:k ≤ ps.length:=hk
  have hw:=qB (n:=k) (by omega)
  by_cases h:k < ps.length
  ·have i1:((k:Int) < (ps.length:Int)) = True:=eq_true (by omega)
   have i2:((0:Int) ≤ (k:Int)) = True:=eq_true (by omega)
   obtain ⟨p,hpe⟩:∃ p,p = ps[k]:=⟨_,rfl⟩
   obtain ⟨p1,p2⟩:=hp ps[k] (List.getElem_mem _)
   rw [← hpe] at p1 p2
   obtain ⟨m,rfl⟩:∃ m:Nat,p = m:=⟨p.toNat,by omega⟩
   have hm:m < a.length:=by omega
   have hle1:(ps.map eI).length = ps.length:=List.length_map _
   have hle2:(a.map eI).length = 38:=by rw [List.length_map,hal]
   have hg1:(ps.map eI)[k]? = some [.int (m:Int)]:=by rw [qD h,← hpe];rfl
   have hg2:(a.map eI)[m]? = some [.int (a.getD m 0)]:=by rw [qD hm,yJ hm];rfl
   have hst:valM a (ps.take (k + 1)) = mP (valM a (ps.take k) * a.getD m 0):=by rw [List.take_succ_eq_append_getElem h,valM_snoc,← hpe];rfl
   have i3:((m:Int) < 38) = True:=eq_true (by omega)
   have i4:((0:Int) ≤ (m:Int)) = True:=eq_true (by omega)
   have hmb:=mul_bdM (valM_bd a (ps.take k)) (hab m)
   have hw2:w64 (valM a (ps.take k) * a.getD m 0) = valM a (ps.take k) * a.getD m 0:=qE (by omega)
   have hnum:=a_num (valM a (ps.take k) * a.getD m 0)
   simp only [eI] at hnum
   refine gw150 (Y10 i1 i2 i3 i4 hle1 hle2 hg1 hg2 hw hw2) ?_
   refine qY.on (k + 1) ⟨h,by omega⟩ ?_
   rw [hst]
   exact gw7 Y0
  ·have i1:((k:Int) < (ps.length:Int)) = False:=eq_false (by omega)
   refine gw151 i1 ?_
   refine qY.out () trivial ?_
   rw [List.take_of_length_le (by omega)]
   exact gw7 Y0
 ·rintro _ _
  refine gw151 Y0 ?_
  exact gw2
theorem mP_mul (a b:Int):mP (mP a * b) = mP (a * b):=by unfold mP;rw [Int.mul_emod,Int.emod_emod_of_dvd _ (Int.dvd_refl _),← Int.mul_emod]
end
section
def fIdx {α:Type} (p:α→Bool):List α→Option Nat
 | [] => none
 | x :: xs => if p x then some 0 else (fIdx p xs).map (· + 1)
def idxI (o:Option Nat):Int:=match o with|some i => i|none => -1
theorem vD {α:Type} {p:α→Bool}:∀ {xs:List α},fIdx p xs = none ↔ ∀ x ∈ xs,p x = false
 | [] => by simp [fIdx]
 | x :: xs => by
  unfold fIdx
  by_cases h:p x = true
  ·simp [h]
  ·have h':p x = false:=by simpa using h
   simp only [h,Bool.false_eq_true,if_false,Option.map_eq_none_iff,vD (xs:=xs)]
   simp [h']
theorem jT0 {α:Type} {p:α→Bool}:∀ {xs:List α} {i:Nat},fIdx p xs = some i→∃ h:i < xs.length,p xs[i] = true∧∀ x ∈ xs.take i,p x = false
 | x :: xs,i,h => by
  unfold fIdx at h
  by_cases hx:p x = true
  ·rw [if_pos hx] at h;cases h
   exact ⟨by simp,hx,by simp⟩
  ·rw [if_neg hx] at h
   obtain ⟨j,hj,rfl⟩:=map_some h
   obtain ⟨h1,h2,h3⟩:=jT0 hj
   refine ⟨by simpa using h1,h2,fun y hy => ?_⟩
   rw [List.take_succ_cons,List.mem_cons] at hy
   rcases hy with rfl|hy
   ·simpa using hx
   ·exact h3 y hy
theorem fIdx_at {α:Type} {p:α→Bool}:∀ {xs:List α} {i:Nat} (h:i < xs.length),p xs[i] = true→(∀ x ∈ xs.take i,p x = false)→fIdx p xs = some i
 | x :: xs,0,_,h1,_ => by
  have h1:p x = true:=h1
  unfold fIdx;rw [if_pos h1]
 | x :: xs,i + 1,h,h1,h2 => by
  unfold fIdx
  have hx:p x = false:=h2 x (by simp)
  rw [if_neg (by simp [hx]),fIdx_at (xs:=xs) (i:=i) (by simpa using h) h1 (fun y hy => h2 y (by simp [hy]))]
  rfl
def keepF {α:Type} (p:α→Bool) (xs:List α):List α:=xs.filter fun x => !p x
end
section
theorem a_IndexFunc {α:Type} (e:α→List D) (d:α→D) (f:α→List Int) (p:α→Bool) (g:FuncId) (he:∀ x,e x = [d x]) (hun:∀ x,(d x).un = .sl 1 ((f x).map eI)) (hp:∀ x,AFn Tryz.prog g [eL (f x)] (· = [.val (.bool (p x))])) (xs:List α) (hl:xs.length ≤ 1000000000) :
  AFn Tryz.prog 215 [[.sl 1 (xs.map e)],[.raw (.func (.func g) #[] #[])]] (· = [.val (.int (idxI (fIdx p xs)))]):=by
 refine AFn.of_runs (qQ 19) Tryz.func215 rfl rfl rfl gz ?_
 have hres:Tryz.f215.results.toList = [.tmp 4]:=rfl
 have hrts:Tryz.f215.resultTypes.toList = [3]:=rfl
 simp only [qV,qT,eL,eI,eLL,eB,Nat.zero_add,Nat.reduceAdd]
 intro M
 refine qJ.of ?_
 have hle:(xs.map e).length = xs.length:=by simp
 refine gw152 hle ?_
 refine qJ.loop (β:=Nat) (γ:=Unit) (fun i => ⟨[(0,.c (.val (.sl 1 (xs.map e)))),(1,.c (.val (.raw (.func (.func g) #[] #[])))),(7,.c (.val (.int xs.length))),(8,.c (.val (.int i)))],[]⟩) (fun i => i ≤ xs.length∧∀ x ∈ xs.take i,p x = false) (fun i => xs.length - i)
  (fun _ => ⟨[],[]⟩) (fun _ => ∀ x ∈ xs,p x = false) 0 ⟨Nat.zero_le _,by simp⟩ ?_ ?_ ?_
 ·exact gw7 Y0
 ·rintro i ⟨hi,hlow⟩
  have hw:=qB (n:=i) (by omega)
  by_cases h:i < xs.length
  ·have hx:=hp xs[i]
   have hj:(xs.map e)[i]? = some [d xs[i]]:=by rw [qD h,he]
   have i1:((i:Int) < (xs.length:Int)) = True:=eq_true (by omega)
   have i2:((0:Int) ≤ (i:Int)) = True:=eq_true (by omega)
   by_cases hpx:p xs[i] = true
   ·repeat' (first|with_reducible (first|refine Q1 ?_|refine Q2 ?_|refine Q3 ?_|refine Q4 ?_|refine Q5 ?_|refine Q6 ?_|refine Q7 ?_|refine Q8 ?_|refine Q9 ?_|refine Qa ?_|refine Qb ?_|refine Qc ?_|refine Qd ?_|refine Qe ?_|refine Qf ?_|refine QO ?_|refine QV 9 ?_|refine QY 9 ?_)|with_reducible ((first|apply QS (qQ 19) (Tab.none.at' g hx)|apply QC);refine QW ?_;simp only [Zg,Zi,seval,reduceCtorEq,Nat.reduceEqDiff,hle,i1,i2,hj,hun,xG (hun _),hpx,hw,eL,Int.toNat_natCast];rfl))
    refine qY.ret ?_
    refine gw152 Y0 ?_
    rw [fIdx_at h hpx hlow]
    exact gw153
   ·have hpx':p xs[i] = false:=by simpa using hpx
    repeat' (first|with_reducible (first|refine Q1 ?_|refine Q2 ?_|refine Q3 ?_|refine Q4 ?_|refine Q5 ?_|refine Q6 ?_|refine Q7 ?_|refine Q8 ?_|refine Q9 ?_|refine Qa ?_|refine Qb ?_|refine Qc ?_|refine Qd ?_|refine Qe ?_|refine Qf ?_|refine QO ?_|refine QV 9 ?_|refine QY 9 ?_)|with_reducible ((first|apply QS (qQ 19) (Tab.none.at' g hx)|apply QC);refine QW ?_;simp only [Zg,Zi,seval,reduceCtorEq,Nat.reduceEqDiff,hle,i1,i2,hj,hun,xG (hun _),hpx',hw,eL,Int.toNat_natCast];rfl))
    refine qY.on (i + 1) ⟨⟨h,fun x hx => ?_⟩,by omega⟩ ?_
    ·rw [List.take_succ_eq_append_getElem h,List.mem_append,List.mem_singleton] at hx
     rcases hx with hx|rfl
     ·exact hlow x hx
     ·exact hpx'
    ·exact gw7 Y0
  ·have i1:((i:Int) < (xs.length:Int)) = False:=eq_false (by omega)
   refine gw152 (Yp hle i1) ?_
   refine qY.out () (fun x hx => hlow x (by rw [List.take_of_length_le (by omega)];exact hx)) ?_
   exact gw7 Y0
 ·rintro _ hno
  refine gw152 Y0 ?_
  rw [vD.2 hno]
  exact gw153
end
section
def long6 (f:List (List Int)):Bool:=f.any fun t => decide (6 < t.length)
def vatOf (a:List Int) (f:List (List Int)):Int × Int:=if isMap a = true∧forB f = true then (if long6 f = true then (0,2) else (valM a (f.map plc),0)) else (0,1)
theorem a_ContainsFuncL {α:Type} (e:α→List D) (d:α→D) (f:α→List Int) (p:α→Bool) (g:FuncId) (he:∀ x,e x = [d x]) (hun:∀ x,(d x).un = .sl 1 ((f x).map eI)) (hp:∀ x,AFn Tryz.prog g [eL (f x)] (· = [.val (.bool (p x))])) (xs:List α) (hl:xs.length ≤ 1000000000) :
  AFn Tryz.prog 165 [[.sl 1 (xs.map e)],[.raw (.func (.func g) #[] #[])]] (· = [.val (.bool (xs.any p))]):=by
 have hidx:=a_IndexFunc e d f p g he hun hp xs hl
 rcases hfi:fIdx p xs with _|i0
 ·rw [hfi] at hidx
  have hk:xs.any p = false:=List.any_eq_false.2 (fun x hx => by rw [vD.1 hfi x hx];decide)
  rw [hk]
  refine AFn.of_runs (qQ 9) Tryz.func165 rfl rfl rfl gz ?_
  have hres:Tryz.f165.results.toList = [.tmp 4]:=rfl
  have hrts:Tryz.f165.resultTypes.toList = [4]:=rfl
  simp only [qV,qT,eL,eI,eLL,eB,Nat.zero_add,Nat.reduceAdd]
  intro M
  refine qJ.of ?_
  refine gw154 (show ((-1:Int) ≥ 0) = False from eq_false (by decide)) ?_
  exact gw2
 ·rw [hfi] at hidx
  obtain ⟨hi0,hpi,_⟩:=jT0 hfi
  have hk:xs.any p = true:=List.any_eq_true.2 ⟨_,List.getElem_mem hi0,hpi⟩
  have i1:((i0:Int) ≥ 0) = True:=eq_true (by omega)
  rw [hk]
  refine AFn.of_runs (qQ 9) Tryz.func165 rfl rfl rfl gz ?_
  have hres:Tryz.f165.results.toList = [.tmp 4]:=rfl
  have hrts:Tryz.f165.resultTypes.toList = [4]:=rfl
  simp only [qV,qT,eL,eI,eLL,eB,Nat.zero_add,Nat.reduceAdd]
  intro M
  refine qJ.of ?_
  refine gw154 i1 ?_
  exact gw2
theorem a_long1 (t:List Int):AFn Tryz.prog 166 [eL t] (· = [.val (.bool (decide (6 < t.length)))]):=by
 refine AFn.of_runs (qQ 6) Tryz.func166 rfl rfl rfl gz ?_
 have hres:Tryz.f166.results.toList = [.tmp 2]:=rfl
 have hrts:Tryz.f166.resultTypes.toList = [4]:=rfl
 simp only [qV,qT,eL,eI,eLL,eB,Nat.zero_add,Nat.reduceAdd]
 intro M
 refine qJ.of ?_
 by_cases h:6 < t.length
 ·have i1:((t.length:Int) > 6) = True:=eq_true (by omega)
  rw [decide_eq_true h]
  refine gw155 i1 ?_
  exact gw2
 ·have i1:((t.length:Int) > 6) = False:=eq_false (by omega)
  rw [decide_eq_false h]
  refine gw155 i1 ?_
  exact gw2
theorem long6_no {f:List (List Int)} (h:long6 f = false):∀ t ∈ f,t.length ≤ 6:=fun t ht => by
 have:=List.any_eq_false.1 h t ht
 simpa using this
theorem a_impl_ValueAt (a:List Int) (f:List (List Int)) (hc1:qX f ≤ 1048576) (hc2:f.length ≤ 1048576):AFn Tryz.prog 104 [eL a,eLL f] (· = [.val (.int (vatOf a f).1),.val (.int (vatOf a f).2)]):=by
 have hm:=a_impl_IsMap a
 have hf:=kE0 f (by omega) (by omega)
 have hc:AFn Tryz.prog 165 [[.sl 1 (f.map eL)],[.raw (.func (.func 166) #[] #[])]] (· = [.val (.bool (long6 f))]):=a_ContainsFuncL eL (fun t => .sl 1 (t.map eI)) id (fun t => decide (6 < t.length)) 166 (fun _ => rfl) (fun _ => rfl) a_long1 f (by omega)
 simp only [eL,eLL] at hm hf
 unfold vatOf
 by_cases h1:isMap a = true
 rotate_left
 ·have h1':isMap a = false:=by simpa using h1
  rw [h1'] at hm
  rw [if_neg (fun h => h1 h.1)]
  refine AFn.of_runs (qQ 40) Tryz.func104 rfl rfl rfl gz ?_
  have hres:Tryz.f104.results.toList = [.tmp 4,.tmp 5]:=rfl
  have hrts:Tryz.f104.resultTypes.toList = [2,2]:=rfl
  simp only [qV,qT,eL,eI,eLL,eB,Nat.zero_add,Nat.reduceAdd]
  intro M
  refine qJ.of ?_
  refine gw156 ?_
  exact gw2
 rw [h1] at hm
 by_cases h2:forB f = true
 rotate_left
 ·have h2':forB f = false:=by simpa using h2
  rw [h2'] at hf
  rw [if_neg (fun h => h2 h.2)]
  refine AFn.of_runs (qQ 40) Tryz.func104 rfl rfl rfl gz ?_
  have hres:Tryz.f104.results.toList = [.tmp 4,.tmp 5]:=rfl
  have hrts:Tryz.f104.resultTypes.toList = [2,2]:=rfl
  simp only [qV,qT,eL,eI,eLL,eB,Nat.zero_add,Nat.reduceAdd]
  intro M
  refine qJ.of ?_
  refine gw157 ?_
  exact gw2
 rw [h2] at hf
 rw [if_pos ⟨h1,h2⟩]
 by_cases h3:long6 f = true
 ·rw [h3] at hc
  rw [if_pos h3]
  refine AFn.of_runs (qQ 40) Tryz.func104 rfl rfl rfl gz ?_
  have hres:Tryz.f104.results.toList = [.tmp 4,.tmp 5]:=rfl
  have hrts:Tryz.f104.resultTypes.toList = [2,2]:=rfl
  simp only [qV,qT,eL,eI,eLL,eB,Nat.zero_add,Nat.reduceAdd]
  intro M
  refine qJ.of ?_
  refine gw158 ?_
  exact gw2
 have h3':long6 f = false:=by simpa using h3
 rw [h3'] at hc
 rw [if_neg h3]
 have hshort:=long6_no h3'
 have hcan:=(xU h2).2.1
 have hfl:=jL0 h2
 have hfm:(f.map eL).length = f.length:=List.length_map _
 obtain ⟨T,hT⟩:∃ T,T = T6.map eL:=⟨_,rfl⟩
 obtain ⟨X,hX⟩:∃ X,X = (T6.map cutsM).map eMs:=⟨_,rfl⟩
 have hfr:frmD = [.sl 1 T,.sl 1 X]:=by rw [hT,hX];rfl
 have hnf:=s_newForms
 rw [hfr] at hnf
 refine AFn.of_runs (qQ 40) Tryz.func104 rfl rfl rfl gz ?_
 have hres:Tryz.f104.results.toList = [.tmp 4,.tmp 5]:=rfl
 have hrts:Tryz.f104.resultTypes.toList = [2,2]:=rfl
 simp only [qV,qT,eL,eI,eLL,eB,Nat.zero_add,Nat.reduceAdd]
 intro M
 refine qJ.of ?_
 ((refine gw159 ?_);with_reducible (apply QS (qQ 40) Tab.none;refine QW ?_;simp only [Zg,Zi,seval,reduceCtorEq,Nat.reduceEqDiff];rfl);(refine gw159 ?_))
 ((refine gw159 ?_);with_reducible (apply QS (qQ 40) ((Tab.none.at' 164 hm).at' 59 hf);refine QW ?_;simp only [Zg,Zi,seval,reduceCtorEq,Nat.reduceEqDiff];rfl);(refine gw159 ?_))
 ((refine gw159 ?_);with_reducible (apply QS (qQ 40) (Tab.none.at' 165 hc);refine QW ?_;simp only [Zg,Zi,seval,reduceCtorEq,Nat.reduceEqDiff];rfl);(refine gw159 ?_))
 ((refine gw159 ?_);(with_reducible refine qJ.regCut (qQ 40) Tab.none 0 (s1:=?_) ?_ ?_);rotate_left 1;(focus ((with_reducible refine QW ?_);simp only [Zg,Zi,seval,reduceCtorEq,Nat.reduceEqDiff];with_reducible rfl));simp only [List.toList_toArray,List.drop_succ_cons,List.drop_zero])
 refine qZ.callS (qQ 40) rfl (d:=22) rfl (by decide) rfl rfl rfl rfl hnf ?_
 (refine qZ.opsT (qQ 40) (T:=Tab.none) (s':=?_) ?_ ?_;rotate_left 1;focus (simp only [Zg,Zi,seval,reduceCtorEq,Nat.reduceEqDiff,List.map_cons,List.map_nil];with_reducible rfl))
 refine gw160 hfm ?_
 refine qJ.loop (β:=Nat) (γ:=Unit) (fun j => ⟨[(0,.c (.val (.sl 1 (a.map eI)))),(6,.optr 6 0 0),(7,.c (.own 7 j)),(24,.c (.val (.sl 1 (f.map eL)))),(25,.c (.val (.int f.length))),(26,.c (.val (.int j)))],[(6,.row 2 [[.sl 1 T,.sl 1 X]] false),(7,.row 1 (((f.take j).map plc).map eI) true)]⟩) (fun j => j ≤ f.length) (fun j => f.length - j)
  (fun _ => ⟨[(0,.c (.val (.sl 1 (a.map eI)))),(7,.c (.own 7 f.length))],[(7,.row 1 ((f.map plc).map eI) true)]⟩) (fun _ => True) 0 (Nat.zero_le _) ?_ ?_ ?_
 ·exact gw56 Y0
 ·intro j hj
  have hj:j ≤ f.length:=hj
  have hwj:=qB (n:=j) (by omega)
  by_cases hjB:j < f.length
  ·have j1:((j:Int) < (f.length:Int)) = True:=eq_true (by omega)
   have j2:((0:Int) ≤ (j:Int)) = True:=eq_true (by omega)
   obtain ⟨b,hb⟩:∃ b,b = f[j]:=⟨_,rfl⟩
   have hbg:(f.map eL)[j]? = some [.sl 1 (b.map eI)]:=by rw [qD hjB,hb];rfl
   have b1:=hcan f[j] (List.getElem_mem _)
   have b2:=hshort f[j] (List.getElem_mem _)
   rw [← hb] at b1 b2
   have hpl:=a_place X b b1 b2
   rw [← hT] at hpl
   have hbk:((f.take (j + 1)).map plc).map eI = ((f.take j).map plc).map eI ++ [[.int (plc b)]]:=by
    rw [hb,List.take_succ_eq_append_getElem hjB,List.map_append,List.map_append];rfl
   obtain ⟨C,hC⟩:∃ C,C = ((f.take j).map plc).map eI:=⟨_,rfl⟩
   have hCl:C.length = j:=by rw [hC,List.length_map,List.length_map,List.length_take];omega
   rw [← hC] at hbk ⊢
   have r1:=jJ (n:=j + 1) (by omega)
   have r2:=qP (n:=j + 1) (c:=8) (by omega) (by omega)
   have r3:(j ≤ 140737488355327) = True:=eq_true (by omega)
   refine gw161 (Y9 j1 j2 hbg hfm hCl r1 r2 r3 hwj) ?_
   refine qY.on (j + 1) ⟨hjB,by omega⟩ ?_
   rw [hbk]
   exact gw7 Y0
  ·have j1:((j:Int) < (f.length:Int)) = False:=eq_false (by omega)
   obtain rfl:j = f.length:=by omega
   refine gw160 j1 ?_
   refine qY.out () trivial ?_
   rw [List.take_length]
   exact gw7 Y0
 ·rintro _ _
  have hv:=a_valueOf a (f.map plc) h1 (fun p hp => by
   obtain ⟨b,hb,rfl⟩:=List.mem_map.1 hp
   have:=plc_lt (hcan b hb) (hshort b hb);omega) (by rw [List.length_map];omega)
  simp only [eL] at hv
  refine gw162 ?_
  exact gw2
end
section
theorem mP_id (x:Int):mP (mP x) = mP x:=by unfold mP;omega
abbrev Mon:=List Nat
abbrev Pol:=List (Int × Mon)
def monV (a:List Int):Mon→Int
 | [] => 1
 | p :: m => a.getD p 0 * monV a m
def polV (a:List Int):Pol→Int
 | [] => 0
 | x :: p => x.1 * monV a x.2 + polV a p
def prodV (a:List Int):List Int→Int
 | [] => 1
 | p :: ps => a.getD p.toNat 0 * prodV a ps
theorem valM_go (a:List Int):∀ (ps:List Int) (o:Int),mP o = o→ps.foldl (fun o p => mP (o * a.getD p.toNat 0)) o = mP (o * prodV a ps)
 | [],o,h => by show o = mP (o * 1);rw [Int.mul_one,h]
 | p :: ps,o,h => by
  show ps.foldl (fun o p => mP (o * a.getD p.toNat 0)) (mP (o * a.getD p.toNat 0)) = mP (o * (a.getD p.toNat 0 * prodV a ps))
  rw [valM_go a ps _ (mP_id _),mP_mul,Int.mul_assoc]
theorem valM_prod (a ps:List Int):valM a ps = mP (prodV a ps):=by
 have:=valM_go a ps 1 (by decide)
 rw [Int.one_mul] at this
 exact this
def RelP (a L:List Int) (P:List Pol):Prop:=L.length = P.length∧∀ i,mP (L.getD i 0) = mP (polV a (P.getD i []))
theorem RelP.snoc {a L:List Int} {P:List Pol} (h:RelP a L P) {x:Int} {p:Pol} (hx:mP x = mP (polV a p)):RelP a (L ++ [x]) (P ++ [p]):=by
 obtain ⟨h1,h2⟩:=h
 refine ⟨by rw [List.length_append,List.length_append,h1];rfl,fun i => ?_⟩
 rw [List.getD_eq_getElem?_getD,List.getD_eq_getElem?_getD]
 by_cases hi:i < L.length
 ·rw [List.getElem?_append_left hi,List.getElem?_append_left (by omega),← List.getD_eq_getElem?_getD,← List.getD_eq_getElem?_getD]
  exact h2 i
 ·by_cases he:i = L.length
  ·subst he
   rw [List.getElem?_append_right (Nat.le_refl _),List.getElem?_append_right (by omega),h1,Nat.sub_self]
   exact hx
  ·rw [List.getElem?_eq_none (by rw [List.length_append];show L.length + 1 ≤ i;omega),List.getElem?_eq_none (by rw [List.length_append];show P.length + 1 ≤ i;omega)]
   rfl
end
section
theorem prodV_app (a:List Int):∀ (l m:List Int),prodV a (l ++ m) = prodV a l * prodV a m
 | [],m => by rw [List.nil_append];show _ = 1 * _;rw [Int.one_mul]
 | p :: l,m => by
  rw [List.cons_append]
  show a.getD p.toNat 0 * prodV a (l ++ m) = (a.getD p.toNat 0 * prodV a l) * prodV a m
  rw [prodV_app a l m,Int.mul_assoc]
theorem prodV_perm (a:List Int) {l m:List Int} (h:l.Perm m):prodV a l = prodV a m:=by
 induction h with
 | nil => rfl
 | cons p _ ih =>
  show a.getD p.toNat 0 * _ = a.getD p.toNat 0 * _
  rw [ih]
 | swap p q L =>
  show a.getD q.toNat 0 * (a.getD p.toNat 0 * _) = a.getD p.toNat 0 * (a.getD q.toNat 0 * _)
  rw [Int.mul_left_comm]
 | trans _ _ h1 h2 => rw [h1,h2]
def vF (a:List Int) (f:List (List Int)):Int:=prodV a (f.map plc)
def vS (a b:List Int) (s:Spl):Int:=vF a s.1 * vF b s.2
theorem vF_app (a:List Int) (f g:List (List Int)):vF a (f ++ g) = vF a f * vF a g:=by unfold vF;rw [List.map_append,prodV_app]
theorem vF_perm (a:List Int) {f g:List (List Int)} (h:f.Perm g):vF a f = vF a g:=prodV_perm a (h.map plc)
theorem vS_cat (a b:List Int) (s c:Spl):vS a b (catS s c) = vS a b s * vS a b c:=by
 unfold vS catS
 rw [vF_app,vF_app,Int.mul_assoc,Int.mul_left_comm (vF a c.1),← Int.mul_assoc (vF a s.1)]
theorem vS_nrm (a b:List Int) (s:Spl):vS a b (nrmS s) = vS a b s:=by
 unfold vS nrmS
 rw [vF_perm a (yQ s.1),vF_perm b (yQ s.2)]
section
variable {F:Spl→Int} (hF:∀ s c,F (catS s c) = F s * F c)
include hF
theorem sum_cat (s:Spl):∀ (L:List Spl),(L.map fun c => F (catS s c)).sum = F s * (L.map F).sum
 | [] => by simp
 | c :: L => by rw [List.map_cons,List.sum_cons,sum_cat s L,hF,List.map_cons,List.sum_cons,Int.mul_add]
theorem sum_flat (L:List Spl):∀ (A:List Spl),((A.flatMap fun s => L.map (catS s)).map F).sum = (A.map F).sum * (L.map F).sum
 | [] => by simp
 | s :: A => by
  rw [List.flatMap_cons,List.map_append,List.sum_append,sum_flat L A,List.map_map,List.map_cons,List.sum_cons,Int.add_mul]
  congr 1
  exact sum_cat hF s L
def mulL:List Int→Int
 | [] => 1
 | x :: l => x * mulL l
omit hF in
theorem mulL_app:∀ (l m:List Int),mulL (l ++ m) = mulL l * mulL m
 | [],m => by rw [List.nil_append];show _ = 1 * _;rw [Int.one_mul]
 | x :: l,m => by
  show x * mulL (l ++ m) = (x * mulL l) * mulL m
  rw [mulL_app l m,Int.mul_assoc]
omit hF in
theorem mulL_perm {l m:List Int} (h:l.Perm m):mulL l = mulL m:=by
 induction h with
 | nil => rfl
 | cons p _ ih => show p * _ = p * _;rw [ih]
 | swap p q L => show q * (p * _) = p * (q * _);rw [Int.mul_left_comm]
 | trans _ _ h1 h2 => rw [h1,h2]
theorem sum_fold:∀ (Ls:List (List Spl)) (A:List Spl),((foldS A Ls).map F).sum = (A.map F).sum * mulL (Ls.map fun L => (L.map F).sum)
 | [],A => by show _ = _ * 1;rw [Int.mul_one];rfl
 | L :: Ls,A => by
  have h:=sum_fold Ls (A.flatMap fun s => L.map (catS s))
  show ((foldS (A.flatMap fun s => L.map (catS s)) Ls).map F).sum = _
  rw [h,sum_flat hF,List.map_cons]
  show _ = _ * ((L.map F).sum * _)
  rw [Int.mul_assoc]
end
theorem wF_vS (a b:List Int) (f:List (List Int)):wF (vS a b) f = mulL (f.map fun t => ((split t).map (vS a b)).sum):=by
 have e:wF (vS a b) f = ((prodS (f.map split)).map (vS a b)).sum:=by
  unfold wF
  congr 1
  exact List.map_congr_left fun s _ => vS_nrm a b s
 rw [e]
 have h:=sum_fold (vS_cat a b) (f.map split) [([],[])]
 have e1:foldS [([],[])] (f.map split) = prodS (f.map split):=rfl
 rw [e1,List.map_map] at h
 rw [h]
 have e2:(([([],[])]:List Spl).map (vS a b)).sum = 1:=rfl
 rw [e2,Int.one_mul]
 rfl
theorem wF_mul (a b:List Int) (f g:List (List Int)):wF (vS a b) (mulF f g) = wF (vS a b) f * wF (vS a b) g:=by
 rw [wF_vS,wF_vS,wF_vS,← mulL_app,← List.map_append]
 exact mulL_perm ((yQ (f ++ g)).map _)
theorem lin_mulR {κ:Type} (F:κ→Int) (k:Int):∀ (L:List (Int × κ)),lin (fun x => F x * k) L = lin F L * k
 | [] => by simp [lin]
 | q :: L => by rw [yA,yA,lin_mulR F k L,Int.add_mul,Int.mul_assoc]
theorem cop_mul (a b:List Int) {d e:Elt}:Eqm (lin (vS a b) (copM (sumS cmpF (prodL d e)))) (lin (vS a b) (copM d) * lin (vS a b) (copM e)):=by
 refine (lin_copM _ _).trans ((lin_sumS yX _ _).trans ((lin_prodL _ d e).trans ?_))
 refine Eqm.trans (Eqm.of ?_) ((lin_copM (vS a b) d).mul (lin_copM (vS a b) e)).symm
 have e1:(fun x => lin (fun y => wF (vS a b) (mulF x y)) e) = fun x => wF (vS a b) x * lin (wF (vS a b)) e:=by
  funext x
  rw [← lin_scale]
  congr 1
  funext y
  rw [wF_mul]
 rw [e1,lin_mulR]
def v9 (a b:List Int):List (Int × Spl)→Int→Int
 | [],out => out
 | q :: L,out => if (vatOf a q.2.1).2 = 0∧(vatOf b q.2.2).2 = 0 then v9 a b L (mP (out + mP (q.1 * mP ((vatOf a q.2.1).1 * (vatOf b q.2.2).1)))) else -1
def VOk (a b:List Int) (q:Int × Spl):Prop:=(vatOf a q.2.1) = (valM a (q.2.1.map plc),0)∧(vatOf b q.2.2) = (valM b (q.2.2.map plc),0)
theorem v9_lin (a b:List Int):∀ (L:List (Int × Spl)) (out:Int),mP out = out→(∀ q ∈ L,VOk a b q)→v9 a b L out = mP (out + lin (vS a b) L)
 | [],out,ho,_ => by show out = mP (out + 0);rw [Int.add_zero,ho]
 | q :: L,out,ho,h => by
  obtain ⟨h1,h2⟩:=h q (by simp)
  unfold v9
  rw [if_pos (by rw [h1,h2];exact ⟨rfl,rfl⟩),v9_lin a b L _ (by unfold mP;omega) (fun p hp => h p (by simp [hp])),h1,h2,yA]
  refine Eqm.mP ?_
  have e1:Eqm (mP (q.1 * mP (valM a (q.2.1.map plc) * valM b (q.2.2.map plc)))) (q.1 * vS a b q.2):=by
   refine (kF _).trans (Eqm.mulL _ ((kF _).trans ?_))
   rw [valM_prod,valM_prod]
   exact (kF _).mul (kF _)
  have e2:=kF (out + mP (q.1 * mP (valM a (q.2.1.map plc) * valM b (q.2.2.map plc))))
  obtain ⟨i,hi⟩:=e1
  obtain ⟨j,hj⟩:=e2
  refine ⟨i + j,?_⟩
  simp only at hi hj ⊢
  omega
theorem copP_sum {p:Int × List (List Int)} (h:forB p.2 = true) {q:Int × Spl} (hq:q ∈ copP p):qX q.2.1 + qX q.2.2 = qX p.2:=by
 unfold copP at hq
 obtain ⟨z,hz,rfl⟩:=List.mem_map.1 hq
 obtain ⟨_,_,k⟩:=wN (kJ (kX h)) z hz
 exact k.2
theorem cop_sum {e:Elt} (h:elB e = true) {n:Nat} (hn:∀ p ∈ e,qX p.2 ≤ n) {q:Int × Spl} (hq:q ∈ sumS cmpTe (copM e)):qX q.2.1 + qX q.2.2 ≤ n:=by
 obtain ⟨p,hp,e1⟩:=sumS_mem hq
 unfold copM at hp
 obtain ⟨r,hr,hp⟩:=List.mem_flatMap.1 hp
 rw [← e1,copP_sum ((yP h).2.2.2 r hr) hp]
 exact hn r hr
theorem okF_forB {f:List (List Int)} (h:OkF f) (h8:qX f ≤ 8):forB f = true:=forB_of h8 (fun t ht => by
  unfold canT
  rw [Bool.and_eq_true]
  exact ⟨lev8_mk (h.1 t ht).1 (by have:=jL ht;omega),decide_eq_true (h.1 t ht).2⟩) h.2
theorem vat_ok {a:List Int} (ha:isMap a = true) {f:List (List Int)} (h:OkF f) (h6:qX f ≤ 6):vatOf a f = (valM a (f.map plc),0):=by
 unfold vatOf
 rw [if_pos ⟨ha,okF_forB h (by omega)⟩,if_neg]
 rw [Bool.not_eq_true]
 unfold long6
 refine List.any_eq_false.2 fun t ht => ?_
 have:=jL ht
 simp;omega
theorem nf_deg' {e:Elt} (h:elB e = true):∀ p ∈ e,(qX p.2:Int) ≤ degE e:=fun p hp => by
 rcases xL e with rfl|⟨L,q,rfl⟩
 ·cases hp
 ·rw [wI]
  have:=nf_deg (yP h).2.1 hp
  omega
theorem v9_all {a b:List Int} (ha:isMap a = true) (hb:isMap b = true) {e:Elt} (h:elB e = true) (h6:degE e ≤ 6):v9 a b (sumS cmpTe (copM e)) 0 = mP (lin (vS a b) (copM e)):=by
 rw [v9_lin a b _ 0 rfl (fun q hq => ?_),Int.zero_add]
 ·exact (lin_sumS jR0 _ _).mP
 ·obtain ⟨k1,k2,_⟩:=cop_key h hq
  have k3:=cop_sum h (n:=6) (fun p hp => by have:=nf_deg' h p hp;omega) hq
  exact ⟨vat_ok ha k1 (by omega),vat_ok hb k2 (by omega)⟩
theorem pc_all {d e p:Elt} (h:timOf d e = (p,0)) (hp:p ≠ []) (h6:degE p ≤ 6) {x y z:List (Int × Spl)} (hx:copOf d = (x,0)) (hy:copOf e = (y,0)) (hz:copOf p = (z,0)) {a b:List Int} (ha:isMap a = true) (hb:isMap b = true) :
  0 ≤ v9 a b x 0∧0 ≤ v9 a b y 0∧v9 a b z 0 = mP (v9 a b x 0 * v9 a b y 0)∧v9 a b x 0 < 10007∧v9 a b y 0 < 10007:=by
 have A:=em_one h
 have hdeg:degE d ≤ 6∧degE e ≤ 6:=by
  rcases A.deg with ⟨k,_⟩|⟨k1,k2,k3,k4⟩
  ·rcases xL p with rfl|⟨L,q,rfl⟩
   ·exact absurd rfl hp
   ·rw [wI] at k;omega
  ·have n1:-1 ≤ degE d:=by
    rcases xL d with rfl|⟨L,q,rfl⟩
    ·decide
    ·rw [wI];omega
   have n2:-1 ≤ degE e:=by
    rcases xL e with rfl|⟨L,q,rfl⟩
    ·decide
    ·rw [wI];omega
   omega
 have cs:∀ {d:Elt} {x:List (Int × Spl)},elB d = true→copOf d = (x,0)→x = sumS cmpTe (copM d):=fun {d x} hd h => by
  rcases cop_case hd with k|k
  ·rw [h] at k;exact (Prod.ext_iff.1 k).1
  ·rw [h] at k;cases k
 have ep:p = sumS cmpF (prodL d e):=by
  rcases jA0 A.bd A.be with ⟨k,_⟩|k
  ·rw [h] at k;exact (Prod.ext_iff.1 k).1
  ·rw [h] at k;cases k
 rw [cs A.bd hx,cs A.be hy,cs A.bp hz,v9_all ha hb A.bd hdeg.1,v9_all ha hb A.be hdeg.2,v9_all ha hb A.bp h6]
 have r1:=jR (lin (vS a b) (copM d))
 have r2:=jR (lin (vS a b) (copM e))
 refine ⟨r1.1,r2.1,?_,r1.2,r2.2⟩
 refine Eqm.mP ?_
 rw [ep]
 exact (cop_mul a b).trans ((kF _).symm.mul (kF _).symm)
end
end Go.Proofs.YtedgfkpfhonlpaaGreat

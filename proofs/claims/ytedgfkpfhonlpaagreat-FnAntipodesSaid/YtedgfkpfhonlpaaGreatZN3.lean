/- Lemmas (3). -/
import Derived.Orders
import Derived.Test.YtedgfkpfhonlpaaGreatZN2
set_option linter.unusedSimpArgs false
set_option linter.unusedVariables false
namespace Go.Proofs.YtedgfkpfhonlpaaGreat
open Go.RowKit
section
section
variable {cfg:Cfg} {h h':Nat→Option Obj} {regs regs':List (Nat × AV)}
def xK (h h':Nat→Option Obj) (regs regs':List (Nat × AV)) (xs:List Operand):Prop :=
 ∀ x ∈ xs,opv regs' x = opv regs x∧∀ v,opv regs x = some v→∀ k ∈ v.refs,h' k = h k
theorem xK.one {xs:List Operand} (a:xK h h' regs regs' xs) {x:Operand} (hx:x ∈ xs):opv regs' x = opv regs x:=(a x hx).1
theorem xK.refs {xs:List Operand} (a:xK h h' regs regs' xs) {x:Operand} (hx:x ∈ xs) {v:AV} (hv:opv regs x = some v):∀ k ∈ v.refs,h' k = h k:=(a x hx).2 v hv
theorem xK.sub {xs ys:List Operand} (a:xK h h' regs regs' xs) (hs:∀ x ∈ ys,x ∈ xs):xK h h' regs regs' ys:=fun x hx => a x (hs x hx)
theorem yL {α β:Type} {o:Option α} {f g:α→Option β} (e:∀ x,o = some x→f x = g x):o.bind f = o.bind g:=by
 cases o with
 | none => rfl
 | some x => exact e x rfl
theorem map_ext' {α β:Type} {o:Option α} {f g:α→β} (e:∀ x,o = some x→f x = g x):o.map f = o.map g:=by
 cases o with
 | none => rfl
 | some x => exact congrArg some (e x rfl)
theorem un_refs {v:AV}:v.un.refs = v.refs:=by
 cases v with
 | c x => cases x <;> rfl
 | _ => rfl
theorem alen_congr {v:AV} (hk:∀ k ∈ v.refs,h' k = h k):alen h' v = alen h v:=by
 rw [← un_refs] at hk
 unfold alen
 generalize v.un = v at hk ⊢
 cases v with
 | c x => cases x with
  | own key n => have e:=hk key (by simp [AV.refs,AC.refs]);simp only [e]
  | view key i n => have e:=hk key (by simp [AV.refs,AC.refs]);simp only [e]
  | val d => cases d <;> rfl
  | _ => rfl
 | _ => rfl
theorem aindex_congr {i:TyI} {v:AV} {n:Int} (hk:∀ k ∈ v.refs,h' k = h k):aindex i h' v n = aindex i h v n:=by
 rw [← un_refs] at hk
 unfold aindex
 generalize v.un = v at hk ⊢
 cases v with
 | c x => cases x with
  | own key n => have e:=hk key (by simp [AV.refs,AC.refs]);simp only [e]
  | view key i n => have e:=hk key (by simp [AV.refs,AC.refs]);simp only [e]
  | val d => cases d <;> rfl
  | _ => rfl
 | _ => rfl
theorem aslice_congr {i:TyI} {v:AV} {l m:Option Int} (hk:∀ k ∈ v.refs,h' k = h k):aslice i h' v l m = aslice i h v l m:=by
 rw [← un_refs] at hk
 unfold aslice
 generalize v.un = v at hk ⊢
 cases v with
 | c x => cases x with
  | own key n => have e:=hk key (by simp [AV.refs,AC.refs]);simp only [e]
  | view key i n => have e:=hk key (by simp [AV.refs,AC.refs]);simp only [e]
  | val d => cases d <;> rfl
  | _ => rfl
 | _ => rfl
theorem afield_congr {fs:List (Nat × Nat)} {v:AV} {f:Nat} (hk:∀ k ∈ v.refs,h' k = h k):afield h' fs v f = afield h fs v f:=by
 unfold afield
 generalize fs[f]? = o
 cases v with
 | optr key i j =>
  have e:=hk key (by simp [AV.refs])
  cases o with
  | none => rfl
  | some p => simp only [e]
 | _ => cases o <;> rfl
theorem acells_congr {v:AV} (hk:∀ k ∈ v.refs,h' k = h k):vH h' v = vH h v:=by
 unfold vH
 cases v with
 | optr key i j => have e:=hk key (by simp [AV.refs]);simp only [e]
 | _ => rfl
theorem argCell_congr {z:D} {x:AC} (hk:∀ k ∈ x.refs,h' k = h k):xR h' z x = xR h z x:=by
 cases x with
 | own key n => have e:=hk key (by simp [AC.refs]);show (match h' key with|some (.row k xs _) => _|_ => _) = _;rw [e];rfl
 | view key i n => have e:=hk key (by simp [AC.refs]);show (match h' key with|some (.row k xs _) => _|_ => _) = _;rw [e];rfl
 | _ => rfl
theorem vQ0:∀ {z:List D} {xs:List AC},(∀ k ∈ xs.flatMap AC.refs,h' k = h k)→jE h' z xs = jE h z xs
 | [],[],_ => rfl
 | [],_ :: _,_ => rfl
 | _ :: _,[],_ => rfl
 | z :: zs,x :: xs,hk => by
  simp only [jE]
  rw [argCell_congr (fun k hx => hk k (by simp [hx])),vQ0 (fun k hx => hk k (by rw [List.flatMap_cons,List.mem_append];exact .inr hx))]
theorem jA0:∀ {xs:List Operand} {ts:List TypeId},xK h h' regs regs' xs→aargs cfg h' regs' xs ts = aargs cfg h regs xs ts
 | [],[],_ => rfl
 | [],_ :: _,_ => rfl
 | _ :: _,[],_ => rfl
 | x :: xs,t :: ts,a => by
  simp only [aargs]
  rw [jA0 (a.sub (fun y hy => by simp [hy]))]
  have:arg1 cfg h' regs' x t = arg1 cfg h regs x t:=by
   unfold arg1
   split
   ·rfl
   ·rw [a.one (by simp)]
    refine yL (fun v hv => ?_)
    unfold argV
    split
    ·rfl
    ·refine yL (fun z _ => yL (fun cs hcs => ?_))
     rw [vQ0 (fun k hk => a.refs (by simp) hv k (by rw [← yS0 (xL0 hcs)];exact hk))]
  rw [this]
theorem opRefs_congr {xs:List Operand} (a:xK h h' regs regs' xs):qM regs' xs = qM regs xs:=by
 unfold qM
 induction xs with
 | nil => rfl
 | cons x xs ih =>
  simp only [List.flatMap_cons]
  rw [a.one (by simp),ih (a.sub (fun y hy => by simp [hy]))]
theorem afill_congr {fs:List (Nat × Nat)}:∀ {parts:List (Nat × Operand)} {cs:List AC},xK h h' regs regs' (parts.map (·.2))→afill fs regs' cs parts = afill fs regs cs parts
 | [],_,_ => rfl
 | (f,x) :: rest,cs,a => by
  simp only [afill]
  rw [a.one (by simp)]
  split
  ·split
   ·exact afill_congr (a.sub (fun y hy => by simp only [List.map_cons,List.mem_cons];exact .inr hy))
   ·rfl
  ·rfl
theorem xH0:∀ {parts:List (Nat × Operand)} {j:Nat},xK h h' regs regs' (parts.map (·.2))→xT regs' j parts = xT regs j parts
 | [],_,_ => rfl
 | (i,x) :: rest,j,a => by
  simp only [xT]
  rw [a.one (by simp),xH0 (a.sub (fun y hy => by simp only [List.map_cons,List.mem_cons];exact .inr hy))]
theorem anew_congr {d:Nat} {op:Op} (a:xK h h' regs regs' op.operands.toList):anew cfg h' regs' d op = anew cfg h regs d op:=by
 cases op with
 | move x => simp only [anew,a.one (x:=x) (by simp [Op.operands])]
 | pick c x y =>
  simp only [anew]
  rw [a.one (x:=c) (by simp [Op.operands])]
  refine yL (fun t _ => ?_)
  cases t
  ·simp only [Bool.false_eq_true,if_false,a.one (x:=y) (by simp [Op.operands])]
  ·simp only [if_true,a.one (x:=x) (by simp [Op.operands])]
 | binOp op tx x y ty => simp only [anew,a.one (x:=x) (by simp [Op.operands]),a.one (x:=y) (by simp [Op.operands])]
 | unOp op tx x => simp only [anew,a.one (x:=x) (by simp [Op.operands])]
 | convert s t x => simp only [anew,a.one (x:=x) (by simp [Op.operands])]
 | indexAddr t x ix =>
  simp only [anew,a.one (x:=x) (by simp [Op.operands]),a.one (x:=ix) (by simp [Op.operands])]
  refine yL (fun i _ => yL (fun v hv => yL (fun n _ => ?_)))
  rw [aindex_congr (a.refs (x:=x) (by simp [Op.operands]) hv)]
 | slice t x lo hi mx =>
  cases mx with
  | some m => rfl
  | none =>
   simp only [anew]
   rw [a.one (x:=x) (by simp [Op.operands])]
   have el:lo.map (fun x => (opv regs' x).bind avI) = lo.map (fun x => (opv regs x).bind avI):=map_ext' (fun y hy => by rw [a.one (by simp [Op.operands,hy])])
   have eh:hi.map (fun x => (opv regs' x).bind avI) = hi.map (fun x => (opv regs x).bind avI):=map_ext' (fun y hy => by rw [a.one (by simp [Op.operands,hy])])
   rw [el,eh]
   refine yL (fun i _ => yL (fun v hv => ?_))
   split
   ·rfl
   ·rfl
   ·rw [aslice_congr (a.refs (x:=x) (by simp [Op.operands]) hv)]
 | fieldAddr t x f =>
  simp only [anew,a.one (x:=x) (by simp [Op.operands])]
  refine yL (fun i _ => yL (fun v hv => ?_))
  rw [afield_congr (a.refs (x:=x) (by simp [Op.operands]) hv)]
 | extract x i => simp only [anew,a.one (x:=x) (by simp [Op.operands])]
 | build t parts =>
  simp only [anew]
  refine yL (fun z _ => yL (fun fs _ => ?_))
  rw [afill_congr (a.sub (fun y hy => by simpa [Op.operands] using hy))]
 | buildSlice t len parts =>
  simp only [anew]
  refine yL (fun i _ => ?_)
  rw [xH0 (a.sub (fun y hy => by simpa [Op.operands] using hy))]
 | alloc t => rfl
 | box t x => simp only [anew,a.one (x:=x) (by simp [Op.operands])]
 | makeSlice t l c => simp only [anew,a.one (x:=l) (by simp [Op.operands]),a.one (x:=c) (by simp [Op.operands])]
 | load t x =>
  simp only [anew,a.one (x:=x) (by simp [Op.operands])]
  refine yL (fun z _ => yL (fun v hv => ?_))
  rw [acells_congr (a.refs (x:=x) (by simp [Op.operands]) hv)]
 | call c =>
  obtain ⟨callee,args,ts⟩:=c
  cases callee with
  | builtin b =>
   cases b <;> try rfl
   simp only [anew]
   split
   ·rename_i x t h1 h2
    rw [a.one (x:=x) (by simp [Op.operands,Call.operands,h1])]
    refine yL (fun i _ => yL (fun v hv => ?_))
    rw [alen_congr (a.refs (x:=x) (by simp [Op.operands,Call.operands,h1]) hv)]
   ·rfl
  | value f => rfl
  | invoke r m => rfl
 | _ => rfl
end
end
section
structure Eff where
 dst:Nat
 av:AV
 news:List (Nat × Obj)
def St.add (s:St) (e:Eff):St:=⟨insR e.dst e.av s.regs,yV e.news s.heap⟩
theorem kU0 (s:St) (e:Eff) (r:Nat):look r (s.add e).regs = if e.dst = r then some e.av else look r s.regs:=jU r e.dst e.av s.regs
theorem kS0 (s:St) (e:Eff) (k:Nat):look k (s.add e).heap = match look k e.news with|some x => some x|none => look k s.heap:=by
 show look k (yV e.news s.heap) = _
 rw [vR,yT]
 cases look k e.news <;> rfl
def PStep (P:Program) (cfg:Cfg) (ops:Array Oper) (i:Nat) (s:St) (e:Eff):Prop :=
 ∀ w0 Ok σ a w (K:Act→World→Prop) (Q:Exit→Act→World→Prop),w0.hd = cfg.hd→Sim w0 Ok cfg.N σ s a w→After w0 Ok cfg.N (s.add e) K→wpOp P ops Q i K a w
structure Tel where
 e:Eff
 used:List Nat
def jO (P:Program) (cfg:Cfg) (ops:Array Oper) (i:Nat) (s:St) (t:Tel):Prop :=
 ∃ o,ops[i]? = some o∧o.dst = some t.e.dst ∧
  ∀ s',(∀ r ∈ o.looksAt ops,look r s'.regs = look r s.regs)→(∀ k ∈ t.used,look k s'.heap = look k s.heap)→(∀ q ob,look q t.e.news = some ob→Free s' q)→PStep P cfg ops i s' t.e
def Tr (P:Program) (cfg:Cfg) (ops:Array Oper):Nat→St→List Tel→Prop
 | _,_,[] => True
 | i,s,t :: l => jO P cfg ops i s t∧Tr P cfg ops (i + 1) (s.add t.e) l
section
variable {P:Program} {cfg:Cfg} {w0:W0} {w w':World} {Ok:Nat→Prop} {N:Nat} {σ σ':Asg} {s s':St} {a:Act} {ops:Array Oper}
def deval (cfg:Cfg) (ops:Array Oper) (o:Oper) (s:St):Option Tel :=
 if dstOK cfg o && !isMut o.op then
  match o.dst with
  | some d => (qN ops s.regs o).bind fun b =>
   if b then (anew cfg (fun k => look k s.heap) s.regs d o.op).bind fun r => if r.2.all (fun p => fresh s p.1) then some ⟨⟨d,r.1,r.2⟩,qM s.regs o.op.operands.toList⟩ else none
   else some ⟨⟨d,.tup [],[]⟩,[]⟩
  | none => none
 else none
theorem kT0 {o:Oper} {t:Nat} (h:Operand.tmp t ∈ o.op.operands.toList):t ∈ o.looksAt ops:=by
 unfold Oper.looksAt
 rw [List.mem_append]
 left
 rw [List.mem_filterMap]
 exact ⟨.tmp t,h,rfl⟩
theorem qW0 {o:Oper} (hr:∀ r ∈ o.looksAt ops,look r s'.regs = look r s.regs):qN ops s'.regs o = qN ops s.regs o:=by
 unfold qN
 cases hg:o.guard with
 | none => rfl
 | some g =>
  obtain ⟨j,want⟩:=g
  simp only
  cases hd:(ops[j]?).bind (·.dst) with
  | none => rfl
  | some d =>
   simp only [Option.bind_some]
   rw [hr d]
   unfold Oper.looksAt
   rw [hg,List.mem_append]
   right
   simp only [hd]
   simp
theorem agree_of {o:Oper} {xs:List Operand} (hx:∀ x ∈ xs,x ∈ o.op.operands.toList) (hr:∀ r ∈ o.looksAt ops,look r s'.regs = look r s.regs) (hh:∀ k ∈ qM s.regs o.op.operands.toList,look k s'.heap = look k s.heap) :
  xK (fun k => look k s.heap) (fun k => look k s'.heap) s.regs s'.regs xs:=by
 intro x hxm
 refine ⟨?_,fun v hv k hk => hh k ?_⟩
 ·cases x with
  | tmp t => simp only [opv];rw [hr t (kT0 (hx _ hxm))]
  | _ => rfl
 ·unfold qM
  rw [List.mem_flatMap]
  exact ⟨x,hx x hxm,by rw [hv];exact hk⟩
theorem jO.op (C:CfgOK P cfg) {i:Nat} {o:Oper} (hi:ops[i]? = some o) {t:Tel} (h:deval cfg ops o s = some t):jO P cfg ops i s t:=by
 unfold deval at h
 split at h
 ·rename_i hc
  rw [Bool.and_eq_true] at hc
  split at h
  ·rename_i d hd
   obtain ⟨b,hb,h⟩:=bind_some h
   split at h
   ·rename_i hbt
    obtain ⟨r,hr,h⟩:=bind_some h
    split at h
    ·rename_i hfr
     cases h
     refine ⟨o,hi,hd,fun s' h1 h2 h3 w0 Ok σ a w K Q hhd hS hK => ?_⟩
     have hw:qN ops s'.regs o = some true:=by rw [qW0 h1,hb,hbt]
     have ha:anew cfg (fun k => look k s'.heap) s'.regs d o.op = some r:=by rw [anew_congr (agree_of (fun x hx => hx) h1 h2),hr]
     unfold wpOp
     simp only [hi,xX hS hw,if_true]
     left
     have hdN:d < cfg.N:=by have:=hc.1;rw [dstOK,hd] at this;simpa using this
     refine anew_doesF C hS (news:=r.2) (av:=r.1) ha h3 _ _ (fun v w' σ' hv hS' => ?_)
     rw [hd]
     have hs:∀ k o',look k (yV r.2 s'.heap) = some o'→look k (r.2 ++ s'.heap) = some o':=fun k o' ho' => by rw [vR] at ho';exact ho'
     exact hK σ' _ _ (Sim.ins (hS'.forget (fun _ _ h => h) hs) hdN (hv.sub hs))
    ·cases h
   ·rename_i hbf
    cases h
    refine ⟨o,hi,hd,fun s' h1 h2 h3 w0 Ok σ a w K Q hhd hS hK => ?_⟩
    have hbf':b = false:=by simpa using hbf
    have hw:qN ops s'.regs o = some false:=by rw [qW0 h1,hb,hbf']
    have hst:astep cfg ops o s' = some (s'.add ⟨d,.tup [],[]⟩):=by
     unfold astep
     rw [if_pos hc.1,hw]
     simp only [Option.bind_some,Bool.false_eq_true,if_false,hd]
     rfl
    have:=astep_wp C hS hst hK (Q:=Q)
    unfold wpOp
    simp only [hi]
    split
    ·rename_i hw2;rw [if_pos hw2] at this;exact .inl this
    ·rename_i hw2;rw [if_neg hw2] at this;exact this
  ·cases h
 ·cases h
theorem jO.call (C:CfgOK P cfg) {i:Nat} {o:Oper} (hi:ops[i]? = some o) {d:Nat} {g:FuncId} {ds:List (List D)} {nr:Bool} (ha:acall cfg ops o s = some (d,g,ds,nr))
  {rs:List Res} (hf:AFn P g ds (· = rs)) (hs:nr = true ∨ rs.all Res.scalar = true) :
  jO P cfg ops i s ⟨⟨d,outAV (qV d rs).1,(qV d rs).2⟩,qM s.regs o.op.operands.toList⟩:=by
 have ha0:=ha
 unfold acall at ha
 split at ha
 ·rename_i hc
  split at ha
  ·rename_i f args ts d' h1 h2
   obtain ⟨g',hg,ha⟩:=bind_some ha
   obtain ⟨ds',hd,e⟩:=map_some ha
   simp only [Prod.mk.injEq] at e
   obtain ⟨rfl,rfl,rfl,rfl⟩:=e
   refine ⟨o,hi,h2,fun s' k1 k2 k3 w0 Ok σ a w K Q hhd hS hK => ?_⟩
   have hop:o.op.operands.toList = f :: args.toList:=by rw [h1];simp [Op.operands,Call.operands]
   have hag:=agree_of (xs:=o.op.operands.toList) (fun x hx => hx) k1 k2
   rw [hop] at hag
   have hst:acall cfg ops o s' = some (d',g',ds',(qM s.regs args.toList).isEmpty):=by
    unfold acall
    rw [qW0 k1,if_pos hc]
    simp only [h1,h2]
    rw [hag.one (by simp),jA0 (hag.sub (fun x hx => by simp [hx])),opRefs_congr (hag.sub (fun x hx => by simp [hx])),hg]
    simp only [Option.bind_some,hd,Option.map_some]
   have:=acall_wp C hS hst hf (hs.imp id (fun h r e => e ▸ h)) (fun r e => e ▸ k3) (K:=K) (Q:=Q) (fun r e => e ▸ hK)
   unfold wpOp
   simp only [hi]
   split
   ·rename_i hw2;rw [if_pos hw2] at this;exact .inl this
   ·rename_i hw2;rw [if_neg hw2] at this;exact this
  ·cases ha
 ·cases ha
theorem Tr.op (C:CfgOK P cfg) {i:Nat} {o:Oper} {t:Tel} {l:List Tel} (hi:ops[i]? = some o) (h:deval cfg ops o s = some t) (r:Tr P cfg ops (i + 1) (s.add t.e) l):Tr P cfg ops i s (t :: l):=⟨jO.op C hi h,r⟩
def drun (cfg:Cfg) (ops:Array Oper):List Oper→St→List Tel→List Tel × St × List Oper
 | [],s,acc => (acc.reverse,s,[])
 | o :: l,s,acc => match deval cfg ops o s with
  | some t => drun cfg ops l (s.add t.e) (t :: acc)
  | none => (acc.reverse,s,o :: l)
theorem Tr.run (C:CfgOK P cfg):∀ {l l':List Oper} {i:Nat} {s s':St} {ts acc r:List Tel},(∀ j,l[j]? = ops[i + j]?)→drun cfg ops l s acc = (acc.reverse ++ ts,s',l')→Tr P cfg ops (i + ts.length) s' r→Tr P cfg ops i s (ts ++ r)
 | [],l',i,s,s',ts,acc,r,_,h,ht => by
  simp only [drun,Prod.mk.injEq] at h
  obtain ⟨h1,rfl,rfl⟩:=h
  have:ts = []:=by simpa using h1
  subst this
  exact ht
 | o :: l,l',i,s,s',ts,acc,r,hl,h,ht => by
  simp only [drun] at h
  have hi:ops[i]? = some o:=by have:=hl 0;simpa using this.symm
  split at h
  ·rename_i t hd
   have e:∃ ts',ts = t :: ts':=by
    have key:∀ {l:List Oper} {s:St} {acc:List Tel},∃ ts',(drun cfg ops l s acc).1 = acc.reverse ++ ts':=by
     intro l
     induction l with
     | nil => intro s acc;exact ⟨[],by simp [drun]⟩
     | cons o l ih =>
      intro s acc
      simp only [drun]
      split
      ·rename_i t _
       obtain ⟨ts',hts⟩:=ih (s:=s.add t.e) (acc:=t :: acc)
       exact ⟨t :: ts',by rw [hts];simp⟩
      ·exact ⟨[],by simp⟩
    obtain ⟨ts',hts⟩:=key (l:=l) (s:=s.add t.e) (acc:=t :: acc)
    rw [h] at hts
    simp only [List.reverse_cons,List.append_assoc,List.singleton_append] at hts
    exact ⟨ts',List.append_cancel_left hts⟩
   obtain ⟨ts',rfl⟩:=e
   refine Tr.op C hi hd (Tr.run C (l:=l) (l':=l') (s':=s') (acc:=t :: acc) (fun j => by have:=hl (j + 1);simpa [Nat.add_assoc,Nat.add_comm 1 j] using this) (by rw [h];simp) ?_)
   rwa [List.length_cons,Nat.add_comm ts'.length 1,← Nat.add_assoc] at ht
  ·simp only [Prod.mk.injEq] at h
   obtain ⟨h1,rfl,rfl⟩:=h
   have:ts = []:=by simpa using h1
   subst this
   exact ht
end
end
section
def maskOf (acc:List Nat) (o:Oper):Nat:=o.after.toList.foldl (fun m e => if Region.binds .any e then m ||| 2 ^ e.on ||| acc.getD e.on 0 else m) 0
def masksGo:List Nat→List Oper→List Nat
 | acc,[] => acc
 | acc,o :: l => masksGo (acc ++ [maskOf acc o]) l
def masks (ops:Array Oper):List Nat:=masksGo [] ops.toList
def Closed (ops:Array Oper) (C:Nat→Prop):Prop:=∀ j o,C j→ops[j]? = some o→∀ e ∈ o.after,Region.binds .any e = true→C e.on
def ReadyBy (ops:Array Oper) (C:Nat→Prop) (i:Nat):Prop:=∀ o,ops[i]? = some o→∀ e ∈ o.after,Region.binds .any e = true→C e.on
section
variable {P:Program} {cfg:Cfg} {w0:W0} {w w':World} {Ok:Nat→Prop} {N:Nat} {σ σ':Asg} {s s':St} {a:Act} {ops:Array Oper}
theorem maskOf_spec {acc:List Nat} {o:Oper} {C:Nat→Prop} (hacc:∀ j k,(acc.getD j 0).testBit k = true→C j→C k) (ho:∀ e ∈ o.after,Region.binds .any e = true→C e.on) {k:Nat} (hk:(maskOf acc o).testBit k = true):C k:=by
 have key:∀ (l:List Edge) (m:Nat),(∀ e ∈ l,Region.binds .any e = true→C e.on)→(∀ k,m.testBit k = true→C k)→∀ k,(l.foldl (fun m e => if Region.binds .any e then m ||| 2 ^ e.on ||| acc.getD e.on 0 else m) m).testBit k = true→C k:=by
  intro l
  induction l with
  | nil => intro m _ hm k hk;exact hm k hk
  | cons e l ih =>
   intro m hl hm k hk
   refine ih _ (fun e' he' => hl e' (by simp [he'])) (fun k hk => ?_) k hk
   dsimp only at hk
   split at hk
   ·rename_i hb
    rw [Nat.testBit_or,Nat.testBit_or,Nat.testBit_two_pow] at hk
    simp only [Bool.or_eq_true,decide_eq_true_eq] at hk
    rcases hk with (hk|hk)|hk
    ·exact hm k hk
    ·subst hk;exact hl e (by simp) hb
    ·exact hacc e.on k hk (hl e (by simp) hb)
   ·exact hm k hk
 exact key o.after.toList 0 (fun e he => ho e (by simpa using he)) (fun k hk => by simp at hk) k hk
theorem masksGo_spec {C:Nat→Prop} (hC:Closed ops C):∀ {l:List Oper} {acc:List Nat},(∀ j,l[j]? = ops[acc.length + j]?)→(∀ j k,(acc.getD j 0).testBit k = true→ReadyBy ops C j→C k) →
  ∀ j k,((masksGo acc l).getD j 0).testBit k = true→ReadyBy ops C j→C k
 | [],acc,_,h => h
 | o :: l,acc,hl,h => by
  have ho:ops[acc.length]? = some o:=by have:=hl 0;simpa using this.symm
  refine masksGo_spec hC (l:=l) (acc:=acc ++ [maskOf acc o]) (fun j => by have:=hl (j + 1);simpa [Nat.add_assoc,Nat.add_comm 1 j] using this) (fun j k hk hr => ?_)
  by_cases hj:j < acc.length
  ·rw [List.getD_eq_getElem?_getD,List.getElem?_append_left hj,← List.getD_eq_getElem?_getD] at hk
   exact h j k hk hr
  ·by_cases hj2:j = acc.length
   ·subst hj2
    rw [List.getD_eq_getElem?_getD,List.getElem?_append_right (Nat.le_refl _),Nat.sub_self] at hk
    refine maskOf_spec (fun j' k' hk' hj' => h j' k' hk' (fun o' ho' e he hb => hC j' o' hj' ho' e he hb)) (fun e he hb => hr o ho e he hb) hk
   ·rw [List.getD_eq_getElem?_getD,List.getElem?_eq_none (by rw [List.length_append];simp;omega)] at hk
    simp at hk
theorem yJ0 {C:Nat→Prop} (hC:Closed ops C) {i k:Nat} (hk:((masks ops).getD i 0).testBit k = true) (hr:ReadyBy ops C i):C k :=
 masksGo_spec hC (l:=ops.toList) (acc:=[]) (fun j => by simp) (fun j k hk => by simp at hk) i k hk hr
structure Sh where
 dst:Nat
 used:List Nat
 keys:List Nat
 refs:List Nat
def Tel.sh (t:Tel):Sh:=⟨t.e.dst,t.used,t.e.news.map (·.1),t.e.av.refs ++ t.e.news.flatMap (·.2.refs)⟩
def apart (xs ys:List Nat):Bool:=xs.all fun x => !ys.contains x
def pairOK (ops:Array Oper) (ms:List Nat) (i j:Nat) (x y:Sh):Bool :=
 i == j || (x.dst != y.dst && apart x.keys y.keys && ((ms.getD i 0).testBit j || (apart [y.dst] (((ops[i]?).map (·.looksAt ops)).getD []) && apart y.keys x.used)) && ((ms.getD j 0).testBit i || apart x.keys y.refs))
def chk (ops:Array Oper) (tr:List Sh):Bool :=
 let ms:=masks ops
 ops.toList.zipIdx.all (fun p => p.1.after.toList.all fun e => !Region.binds .any e || e.on < p.2) &&
 (List.range ops.size).all (fun i => i < tr.length || (List.range i).all fun j => (ms.getD i 0).testBit j) &&
 tr.length ≤ ops.size &&
 tr.zipIdx.all (fun p => tr.zipIdx.all fun q => pairOK ops ms p.2 q.2 p.1 q.1)
theorem yU0 {xs ys:List Nat} (h:apart xs ys = true):∀ x ∈ xs,x ∉ ys:=by
 intro x hx hy
 have:=List.all_eq_true.1 h x hx
 simp at this
 exact this hy
def stOf (s:St) (tr:List Tel) (L:List Nat):St:=L.foldl (fun s i => match tr[i]? with|some t => s.add t.e|none => s) s
theorem xJ0 (s:St) (tr:List Tel) (L:List Nat) (i:Nat) {t:Tel} (h:tr[i]? = some t):stOf s tr (L ++ [i]) = (stOf s tr L).add t.e:=by
 unfold stOf
 rw [List.foldl_append,List.foldl_cons,List.foldl_nil,h]
theorem rev_ind {p:List Nat→Prop} (h0:p []) (h1:∀ L j,p L→p (L ++ [j])) (L:List Nat):p L:=by
 have key:∀ L:List Nat,p L.reverse:=by
  intro L
  induction L with
  | nil => exact h0
  | cons j L ih => rw [List.reverse_cons];exact h1 _ _ ih
 have:=key L.reverse
 rwa [List.reverse_reverse] at this
theorem stOf_regs (s:St) (tr:List Tel) (hd:∀ (i j:Nat) (t u:Tel),tr[i]? = some t→tr[j]? = some u→i ≠ j→t.e.dst ≠ u.e.dst):∀ (L:List Nat),(∀ (i:Nat) (t:Tel),tr[i]? = some t→i ∈ L→look t.e.dst (stOf s tr L).regs = some t.e.av) ∧
  (∀ r,(∀ (i:Nat) (t:Tel),tr[i]? = some t→i ∈ L→t.e.dst ≠ r)→look r (stOf s tr L).regs = look r s.regs):=by
 apply rev_ind
 ·exact ⟨(fun i t _ h => nomatch h),fun r _ => rfl⟩
 ·intro L j ih
  cases hj:tr[j]? with
  | none =>
   have e:stOf s tr (L ++ [j]) = stOf s tr L:=by unfold stOf;rw [List.foldl_append,List.foldl_cons,List.foldl_nil,hj]
   rw [e]
   refine ⟨fun i t hi hm => ih.1 i t hi ?_,fun r hr => ih.2 r (fun i t hi hm => hr i t hi (List.mem_append_left _ hm))⟩
   rcases List.mem_append.1 hm with hm|hm
   ·exact hm
   ·rw [List.mem_singleton] at hm;subst hm;rw [hj] at hi;cases hi
  | some u =>
   rw [xJ0 s tr L j hj]
   refine ⟨fun i t hi hm => ?_,fun r hr => ?_⟩
   ·rw [kU0]
    by_cases hij:i = j
    ·subst hij
     rw [hj] at hi
     cases hi
     rw [if_pos rfl]
    ·rw [if_neg (hd j i u t hj hi (fun e => hij e.symm))]
     rcases List.mem_append.1 hm with hm|hm
     ·exact ih.1 i t hi hm
     ·rw [List.mem_singleton] at hm;exact absurd hm hij
   ·rw [kU0,if_neg (hr j u hj (by simp))]
    exact ih.2 r (fun i t hi hm => hr i t hi (List.mem_append_left _ hm))
theorem xS0 {α:Type} {k:Nat} {x:α} {l:List (Nat × α)} (h:look k l = some x):k ∈ l.map (·.1):=List.mem_map.2 ⟨(k,x),yC h,rfl⟩
theorem kF0 {α:Type} {k:Nat} {l:List (Nat × α)} (h:k ∉ l.map (·.1)):look k l = none:=by
 cases e:look k l with
 | none => rfl
 | some x => exact absurd (xS0 e) h
theorem stOf_heap (s:St) (tr:List Tel) (hd:∀ (i j:Nat) (t u:Tel),tr[i]? = some t→tr[j]? = some u→i ≠ j→∀ k ∈ t.e.news.map (·.1),k ∉ u.e.news.map (·.1)):∀ (L:List Nat),
  (∀ (i:Nat) (t:Tel),tr[i]? = some t→i ∈ L→∀ k ∈ t.e.news.map (·.1),look k (stOf s tr L).heap = look k t.e.news) ∧
  (∀ k,(∀ (i:Nat) (t:Tel),tr[i]? = some t→i ∈ L→k ∉ t.e.news.map (·.1))→look k (stOf s tr L).heap = look k s.heap):=by
 have some_of:∀ {k:Nat} {l:List (Nat × Obj)},k ∈ l.map (·.1)→∃ x,look k l = some x:=by
  intro k l
  induction l with
  | nil => intro h;cases h
  | cons p l ih =>
   intro h
   obtain ⟨i,y⟩:=p
   simp only [look]
   split
   ·exact ⟨_,rfl⟩
   ·rename_i hne
    rw [List.map_cons,List.mem_cons] at h
    rcases h with h|h
    ·exact absurd h.symm hne
    ·exact ih h
 apply rev_ind
 ·exact ⟨(fun i t _ h => nomatch h),fun r _ => rfl⟩
 ·intro L j ih
  cases hj:tr[j]? with
  | none =>
   have e:stOf s tr (L ++ [j]) = stOf s tr L:=by unfold stOf;rw [List.foldl_append,List.foldl_cons,List.foldl_nil,hj]
   rw [e]
   refine ⟨fun i t hi hm => ih.1 i t hi ?_,fun r hr => ih.2 r (fun i t hi hm => hr i t hi (List.mem_append_left _ hm))⟩
   rcases List.mem_append.1 hm with hm|hm
   ·exact hm
   ·rw [List.mem_singleton] at hm;subst hm;rw [hj] at hi;cases hi
  | some u =>
   rw [xJ0 s tr L j hj]
   refine ⟨fun i t hi hm k hk => ?_,fun k hr => ?_⟩
   ·rw [kS0]
    by_cases hij:i = j
    ·subst hij
     rw [hj] at hi
     cases hi
     obtain ⟨x,hx⟩:=some_of hk
     rw [hx]
    ·rw [kF0 (hd i j t u hi hj hij k hk)]
     rcases List.mem_append.1 hm with hm|hm
     ·exact ih.1 i t hi hm k hk
     ·rw [List.mem_singleton] at hm;exact absurd hm hij
   ·rw [kS0,kF0 (hr j u hj (by simp))]
    exact ih.2 k (fun i t hi hm => hr i t hi (List.mem_append_left _ hm))
theorem Tr.at_:∀ {tr:List Tel} {p:Nat} {s0:St},Tr P cfg ops p s0 tr→∀ (i:Nat) (t:Tel),tr[i]? = some t→jO P cfg ops (p + i) ((tr.take i).foldl (fun s t => s.add t.e) s0) t
 | [],_,_,_,i,t,h => by simp at h
 | u :: tr,p,s0,⟨h1,h2⟩,0,t,h => by simp at h;subst h;exact h1
 | u :: tr,p,s0,⟨h1,h2⟩,i + 1,t,h => by
  have:=Tr.at_ h2 i t (by simpa using h)
  rw [List.take_succ_cons,List.foldl_cons,show p + (i + 1) = p + 1 + i by omega]
  exact this
theorem foldl_stOf (s:St) (tr:List Tel):∀ (n:Nat),n ≤ tr.length→(tr.take n).foldl (fun s t => s.add t.e) s = stOf s tr (List.range n)
 | 0,_ => rfl
 | n + 1,h => by
  rw [List.range_succ,xJ0 s tr _ n (t:=tr[n]) (List.getElem?_eq_getElem (by omega)),← foldl_stOf s tr n (by omega),List.take_succ_eq_append_getElem (by omega),List.foldl_append,List.foldl_cons,List.foldl_nil]
end
end
section
theorem len_ge {q:Nat}:∀ {L:List Nat},(∀ i,i < q→i ∈ L)→q ≤ L.length:=by
 induction q with
 | zero => intro L _;exact Nat.zero_le _
 | succ q ih =>
  intro L h
  have hm:=h q (Nat.lt_succ_self q)
  have:=ih (L:=L.erase q) (fun i hi => (List.mem_erase_of_ne (by omega)).2 (h i (by omega)))
  rw [List.length_erase_of_mem hm] at this
  have:=List.length_pos_of_mem hm
  omega
theorem len_le {q:Nat}:∀ {L:List Nat},L.Nodup→(∀ i ∈ L,i < q)→L.length ≤ q:=by
 induction q with
 | zero =>
  intro L _ h
  cases L with
  | nil => exact Nat.le_refl _
  | cons x L => have:=h x (by simp);omega
 | succ q ih =>
  intro L hn h
  by_cases hm:q ∈ L
  ·have:=ih (L:=L.erase q) (hn.erase q) (fun i hi => by
    rw [List.Nodup.mem_erase_iff hn] at hi
    have:=h i hi.2
    have:=hi.1
    omega)
   rw [List.length_erase_of_mem hm] at this
   omega
  ·have:=ih hn (fun i hi => by
    have:=h i hi
    have:i ≠ q:=fun e => hm (e ▸ hi)
    omega)
   omega
section
variable {P:Program} {cfg:Cfg} {M:Nat→Prop} {w0:W0} {w w':World} {Ok:Nat→Prop} {N:Nat} {σ σ':Asg} {s s':St} {a:Act} {ops:Array Oper}
def LL (ops:Array Oper) (listed:Array Bool) (L:List Nat):Prop:=listed.size = ops.size∧∀ i,i < ops.size→listed[i]? = some (decide (i ∈ L))
theorem LL.getT {listed:Array Bool} {L:List Nat} (h:LL ops listed L) {i:Nat} (d:Bool) (hi:i < ops.size):listed.getD i d = decide (i ∈ L):=by
 rw [Array.getD_eq_getD_getElem?,h.2 i hi];rfl
theorem LL.set {listed:Array Bool} {L:List Nat} (h:LL ops listed L) {i:Nat} (hi:i < ops.size):LL ops (listed.setIfInBounds i true) (L ++ [i]):=by
 refine ⟨by rw [Array.size_setIfInBounds];exact h.1,fun j hj => ?_⟩
 rw [Array.getElem?_setIfInBounds]
 by_cases e:i = j
 ·subst e
  rw [if_pos rfl,if_pos (by rw [h.1];exact hi)]
  simp
 ·rw [if_neg e,h.2 j hj]
  have:j ∈ L ++ [i] ↔ j ∈ L:=by simp;intro e';exact absurd e'.symm e
  simp only [this]
theorem LL.congr {listed:Array Bool} {L L':List Nat} (h:LL ops listed L) (he:∀ i,i ∈ L ↔ i ∈ L'):LL ops listed L':=⟨h.1,fun i hi => by rw [h.2 i hi];simp only [he]⟩
theorem jO0 {listed:Array Bool} {L:List Nat} (h:LL ops listed L) (c1:∀ i o,ops[i]? = some o→∀ e ∈ o.after,Region.binds .any e = true→e.on < i) {i:Nat}:i ∈ Region.ready .any ops listed ↔ i < ops.size∧i ∉ L∧ReadyBy ops (· ∈ L) i:=by
 rw [mem_ready]
 constructor
 ·rintro ⟨h0,o,ho,hall⟩
  have hi:i < ops.size:=(Array.getElem?_eq_some_iff.1 ho).1
  rw [h.getT true hi] at h0
  refine ⟨hi,by simpa using h0,fun o' ho' e he hb => ?_⟩
  obtain rfl:o = o':=Option.some.inj (ho.symm.trans ho')
  have h1:=hall e he hb
  rw [h.getT false (by have:=c1 i o ho e he hb;omega)] at h1
  simpa using h1
 ·rintro ⟨hi,h0,hall⟩
  refine ⟨by rw [h.getT true hi];simpa using h0,ops[i],Array.getElem?_eq_getElem hi,fun e he hb => ?_⟩
  have h1:=hall _ (Array.getElem?_eq_getElem hi) e he hb
  rw [h.getT false (by have:=c1 i _ (Array.getElem?_eq_getElem hi) e he hb;omega)]
  simpa using h1
structure Chk (ops:Array Oper) (tr:List Tel):Prop where
 c1:∀ i o,ops[i]? = some o→∀ e ∈ o.after,Region.binds .any e = true→e.on < i
 c2:∀ i,i < ops.size→tr.length ≤ i→∀ j,j < i→((masks ops).getD i 0).testBit j = true
 c3:tr.length ≤ ops.size
 c4:∀ (i j:Nat) (t u:Tel),tr[i]? = some t→tr[j]? = some u→pairOK ops (masks ops) i j t.sh u.sh = true
theorem chk_spec {tr:List Tel} (h:chk ops (tr.map Tel.sh) = true):Chk ops tr:=by
 unfold chk at h
 simp only [Bool.and_eq_true,List.length_map,decide_eq_true_eq] at h
 obtain ⟨⟨⟨h1,h2⟩,h3⟩,h4⟩:=h
 refine ⟨fun i o ho e he hb => ?_,fun i hi hq j hj => ?_,h3,fun i j t u ht hu => ?_⟩
 ·have hm:(o,i) ∈ ops.toList.zipIdx:=by
   rw [List.mem_zipIdx_iff_getElem?]
   simpa using ho
  have:=List.all_eq_true.1 (List.all_eq_true.1 h1 _ hm) e (by simpa using he)
  simp only [hb,Bool.not_true,Bool.false_or,decide_eq_true_eq] at this
  exact this
 ·have:=List.all_eq_true.1 h2 i (List.mem_range.2 hi)
  simp only [Bool.or_eq_true,decide_eq_true_eq] at this
  rcases this with h|h
  ·omega
  ·exact List.all_eq_true.1 h j (List.mem_range.2 hj)
 ·have m1:(t.sh,i) ∈ (tr.map Tel.sh).zipIdx:=by
   rw [List.mem_zipIdx_iff_getElem?,List.getElem?_map,ht];rfl
  have m2:(u.sh,j) ∈ (tr.map Tel.sh).zipIdx:=by
   rw [List.mem_zipIdx_iff_getElem?,List.getElem?_map,hu];rfl
  exact List.all_eq_true.1 (List.all_eq_true.1 h4 _ m1) _ m2
theorem jE0 {ms:List Nat} {i j:Nat} {x y:Sh} (h:pairOK ops ms i j x y = true) (hij:i ≠ j):x.dst ≠ y.dst∧(∀ k ∈ x.keys,k ∉ y.keys) ∧
  ((ms.getD i 0).testBit j = true ∨ ((∀ o,ops[i]? = some o→y.dst ∉ o.looksAt ops)∧∀ k ∈ y.keys,k ∉ x.used))∧((ms.getD j 0).testBit i = true ∨ ∀ k ∈ x.keys,k ∉ y.refs):=by
 unfold pairOK at h
 simp only [Bool.or_eq_true,Bool.and_eq_true,beq_iff_eq,bne_iff_ne,hij,false_or] at h
 obtain ⟨⟨⟨h1,h2⟩,h3⟩,h4⟩:=h
 refine ⟨h1,yU0 h2,h3.imp id (fun h => ⟨fun o ho => ?_,yU0 h.2⟩),h4.imp id yU0⟩
 have:=yU0 h.1 y.dst (by simp)
 rw [ho] at this
 exact this
theorem any_pure {tr:List Tel} (ht:Tr P cfg ops 0 s tr) (hc:Chk ops tr) (hf:∀ t ∈ tr,∀ k ∈ t.e.news.map (·.1),Free s k) {Q':Exit→Act→World→Prop} {w0:W0} {Ok:Nat→Prop}
  (hhd:w0.hd = cfg.hd) (fin:∀ σ' a' w' listed',LL ops listed' (List.range tr.length)→Sim w0 Ok cfg.N σ' (stOf s tr (List.range tr.length)) a' w'→wpAny P .any ops Q' (ops.size - tr.length) listed' a' w') :
  ∀ (fuel:Nat) (L:List Nat) (listed:Array Bool),L.Nodup→(∀ i ∈ L,i < tr.length)→Closed ops (· ∈ L)→LL ops listed L→fuel + L.length = ops.size→∀ σ a w,Sim w0 Ok cfg.N σ (stOf s tr L) a w→wpAny P .any ops Q' fuel listed a w:=by
 have hreg:=stOf_regs s tr (fun i j t u hi hj hij => (jE0 (hc.c4 i j t u hi hj) hij).1)
 have hheap:=stOf_heap s tr (fun i j t u hi hj hij => (jE0 (hc.c4 i j t u hi hj) hij).2.1)
 have done:∀ (fuel:Nat) (L:List Nat) (listed:Array Bool),L.Nodup→(∀ i ∈ L,i < tr.length)→LL ops listed L→fuel + L.length = ops.size→L.length = tr.length→∀ σ a w,Sim w0 Ok cfg.N σ (stOf s tr L) a w→wpAny P .any ops Q' fuel listed a w:=by
  intro fuel L listed hn hlt hl hfu hlen σ a w hS
  have hall:∀ i,i < tr.length→i ∈ L:=by
   intro i hi
   by_cases hm:i ∈ L
   ·exact hm
   ·have:=len_le (q:=tr.length) (L:=i :: L) (List.nodup_cons.2 ⟨hm,hn⟩) (fun j hj => by
     rcases List.mem_cons.1 hj with rfl|hj
     ·exact hi
     ·exact hlt j hj)
    simp at this
    omega
  have hiff:∀ i,i ∈ L ↔ i ∈ List.range tr.length:=fun i => ⟨fun h => List.mem_range.2 (hlt i h),fun h => hall i (List.mem_range.1 h)⟩
  have he:fuel = ops.size - tr.length:=by omega
  rw [he]
  refine fin σ a w listed (hl.congr hiff) (hS.forget (fun r av hr => ?_) (fun k o hk => ?_))
  ·by_cases hex:∃ (i:Nat) (t:Tel),tr[i]? = some t∧t.e.dst = r
   ·obtain ⟨i,t,hi,e⟩:=hex
    have hiq:i < tr.length:=(List.getElem?_eq_some_iff.1 hi).1
    have h1:=(hreg (List.range tr.length)).1 i t hi (List.mem_range.2 hiq)
    have h2:=(hreg L).1 i t hi (hall i hiq)
    rw [e] at h1 h2
    exact h2.trans (h1.symm.trans hr)
   ·have h1:=(hreg (List.range tr.length)).2 r (fun i t hi _ e => hex ⟨i,t,hi,e⟩)
    have h2:=(hreg L).2 r (fun i t hi _ e => hex ⟨i,t,hi,e⟩)
    exact h2.trans (h1.symm.trans hr)
  ·by_cases hex:∃ (i:Nat) (t:Tel),tr[i]? = some t∧k ∈ t.e.news.map (·.1)
   ·obtain ⟨i,t,hi,e⟩:=hex
    have hiq:i < tr.length:=(List.getElem?_eq_some_iff.1 hi).1
    have h1:=(hheap (List.range tr.length)).1 i t hi (List.mem_range.2 hiq) k e
    have h2:=(hheap L).1 i t hi (hall i hiq) k e
    exact h2.trans (h1.symm.trans hk)
   ·have h1:=(hheap (List.range tr.length)).2 k (fun i t hi _ e => hex ⟨i,t,hi,e⟩)
    have h2:=(hheap L).2 k (fun i t hi _ e => hex ⟨i,t,hi,e⟩)
    exact h2.trans (h1.symm.trans hk)
 intro fuel
 induction fuel with
 | zero =>
  intro L listed hn hlt hcl hl hfu σ a w hS
  have h1:=len_le hn hlt
  have h2:=hc.c3
  exact done 0 L listed hn hlt hl hfu (by omega) σ a w hS
 | succ fuel ih =>
  intro L listed hn hlt hcl hl hfu σ a w hS
  by_cases hlen:L.length = tr.length
  ·exact done (fuel + 1) L listed hn hlt hl hfu hlen σ a w hS
  ·have h1:=len_le hn hlt
   have hlt':L.length < tr.length:=by omega
   refine ⟨fun hnil => ?_,fun i hi => ?_⟩
   ·exfalso
    obtain ⟨i,hi1,hi2⟩:=least (p:=fun i => i < tr.length∧i ∉ L) (by
     refine Classical.byContradiction (fun hno => ?_)
     have:=len_ge (q:=tr.length) (L:=L) (fun i hi => Classical.byContradiction (fun hm => hno ⟨i,hi,hm⟩))
     omega)
    have hr:i ∈ Region.ready .any ops listed:=(jO0 hl hc.c1).2 ⟨by have:=hc.c3;omega,hi1.2,fun o ho e he hb => by
     have h2:=hc.c1 i o ho e he hb
     refine Classical.byContradiction (fun hm => ?_)
     have:=hi2 e.on ⟨by omega,hm⟩
     omega⟩
    rw [hnil] at hr
    cases hr
   ·obtain ⟨hin,hiL,hrd⟩:=(jO0 hl hc.c1).1 hi
    have hmask:∀ {k:Nat},((masks ops).getD i 0).testBit k = true→k ∈ L∧k < i:=by
     intro k hk
     refine ⟨yJ0 hcl hk hrd,yJ0 (C:=(· < i)) (fun j o hj ho e he hb => ?_) hk (fun o ho e he hb => hc.c1 i o ho e he hb)⟩
     have:=hc.c1 j o ho e he hb
     have hj':j < i:=hj
     show e.on < i
     omega
    have hiq:i < tr.length:=by
     refine Classical.byContradiction (fun hge => ?_)
     have h2:=hc.c2 i hin (by omega)
     have:=len_ge (q:=tr.length) (L:=L) (fun j hj => (hmask (h2 j (by omega))).1)
     omega
    obtain ⟨t,hti⟩:∃ t,tr[i]? = some t:=⟨tr[i],List.getElem?_eq_getElem hiq⟩
    obtain ⟨o,ho,hod,hstep⟩:=Tr.at_ ht i t hti
    rw [foldl_stOf s tr i (by omega)] at hstep
    rw [Nat.zero_add] at hstep
    refine hstep (stOf s tr L) (fun r hr => ?_) (fun k hk => ?_) (fun k ob hk => ?_) w0 Ok σ a w _ _ hhd hS ?_
    ·by_cases hex:∃ (j:Nat) (u:Tel),tr[j]? = some u∧j ≠ i∧u.e.dst = r
     ·obtain ⟨j,u,hj,hji,e⟩:=hex
      obtain ⟨_,_,p3,_⟩:=jE0 (hc.c4 i j t u hti hj) (fun e => hji e.symm)
      rcases p3 with p3|⟨p3,_⟩
      ·obtain ⟨m1,m2⟩:=hmask p3
       have h1:=(hreg L).1 j u hj m1
       have h2:=(hreg (List.range i)).1 j u hj (List.mem_range.2 m2)
       rw [e] at h1 h2
       rw [h1,h2]
      ·refine absurd hr ?_
       have:=p3 o (by simpa using ho)
       rw [← e]
       exact this
     ·have e1:=(hreg L).2 r (fun j u hj hm e => hex ⟨j,u,hj,fun e' => hiL (e' ▸ hm),e⟩)
      have e2:=(hreg (List.range i)).2 r (fun j u hj hm e => hex ⟨j,u,hj,fun e' => by rw [e'] at hm;exact absurd (List.mem_range.1 hm) (Nat.lt_irrefl _),e⟩)
      rw [e1,e2]
    ·by_cases hex:∃ (j:Nat) (u:Tel),tr[j]? = some u∧j ≠ i∧k ∈ u.e.news.map (·.1)
     ·obtain ⟨j,u,hj,hji,e⟩:=hex
      obtain ⟨_,_,p3,_⟩:=jE0 (hc.c4 i j t u hti hj) (fun e => hji e.symm)
      rcases p3 with p3|⟨_,p3⟩
      ·obtain ⟨m1,m2⟩:=hmask p3
       rw [(hheap L).1 j u hj m1 k e,(hheap (List.range i)).1 j u hj (List.mem_range.2 m2) k e]
      ·exact absurd hk (p3 k e)
     ·have e1:=(hheap L).2 k (fun j u hj hm e => hex ⟨j,u,hj,fun e' => hiL (e' ▸ hm),e⟩)
      have e2:=(hheap (List.range i)).2 k (fun j u hj hm e => hex ⟨j,u,hj,fun e' => by rw [e'] at hm;exact absurd (List.mem_range.1 hm) (Nat.lt_irrefl _),e⟩)
      rw [e1,e2]
    ·have hkm:k ∈ t.e.news.map (·.1):=xS0 hk
     have hfs:=hf t (List.mem_of_getElem? hti) k hkm
     have hoth:∀ (j:Nat) (u:Tel),tr[j]? = some u→j ∈ L→k ∉ u.e.news.map (·.1)∧k ∉ u.sh.refs:=by
      intro j u hj hm
      have hij:i ≠ j:=fun e => hiL (e ▸ hm)
      obtain ⟨_,p2,_,p4⟩:=jE0 (hc.c4 i j t u hti hj) hij
      refine ⟨p2 k hkm,?_⟩
      rcases p4 with p4|p4
      ·refine absurd (yJ0 hcl p4 (fun o' ho' e he hb => hcl j o' hm ho' e he hb)) hiL
      ·exact p4 k hkm
     refine ⟨?_,fun r av hr hm => ?_,fun q u hq hm => ?_⟩
     ·rw [(hheap L).2 k (fun j u hj hm => (hoth j u hj hm).1)]
      exact hfs.1
     ·by_cases hex:∃ (j:Nat) (u:Tel),tr[j]? = some u∧j ∈ L∧u.e.dst = r
      ·obtain ⟨j,u,hj,hjL,e⟩:=hex
       have h1:=(hreg L).1 j u hj hjL
       rw [e,hr] at h1
       cases h1
       exact (hoth j u hj hjL).2 (List.mem_append_left _ hm)
      ·rw [(hreg L).2 r (fun j u hj hm e => hex ⟨j,u,hj,hm,e⟩)] at hr
       exact hfs.2.1 r av hr hm
     ·by_cases hex:∃ (j:Nat) (v:Tel),tr[j]? = some v∧j ∈ L∧q ∈ v.e.news.map (·.1)
      ·obtain ⟨j,v,hj,hjL,e⟩:=hex
       rw [(hheap L).1 j v hj hjL q e] at hq
       refine (hoth j v hj hjL).2 (List.mem_append_right _ ?_)
       rw [List.mem_flatMap]
       exact ⟨(q,u),yC hq,hm⟩
      ·rw [(hheap L).2 q (fun j u hj hm e => hex ⟨j,u,hj,hm,e⟩)] at hq
       exact hfs.2.2 q u hq hm
    ·intro σ' a' w' hS'
     rw [← xJ0 s tr L i hti] at hS'
     refine ih (L ++ [i]) _ ?_ ?_ ?_ (hl.set hin) (by simp;omega) σ' a' w' hS'
     ·refine List.nodup_append.2 ⟨hn,by simp,fun x hx y hy e => ?_⟩
      rw [List.mem_singleton] at hy
      subst hy;subst e
      exact hiL hx
     ·intro j hj
      rcases List.mem_append.1 hj with hj|hj
      ·exact hlt j hj
      ·rw [List.mem_singleton] at hj;subst hj;exact hiq
     ·intro j o' hj ho' e he hb
      rcases List.mem_append.1 hj with hj|hj
      ·exact List.mem_append_left _ (hcl j o' hj ho' e he hb)
      ·rw [List.mem_singleton] at hj;subst hj;exact List.mem_append_left _ (hrd o' ho' e he hb)
theorem any_tail {tr:List Tel} (hc:Chk ops tr) {Q':Exit→Act→World→Prop}:∀ (f m:Nat) (listed:Array Bool),m + f = ops.size→tr.length ≤ m→LL ops listed (List.range m)→∀ a w,wpOps P ops Q' (List.range' m f) a w→wpAny P .any ops Q' f listed a w
 | 0,m,listed,hm,hq,hl,a,w,h => by
  refine ⟨?_,h⟩
  cases hr:Region.ready .any ops listed with
  | nil => rfl
  | cons i l =>
   have hi:i ∈ Region.ready .any ops listed:=by rw [hr];simp
   obtain ⟨h1,h2,_⟩:=(jO0 hl hc.c1).1 hi
   exact absurd (List.mem_range.2 (by omega)) h2
 | f + 1,m,listed,hm,hq,hl,a,w,h => by
  have hin:m < ops.size:=by omega
  have hmr:m ∈ Region.ready .any ops listed:=(jO0 hl hc.c1).2 ⟨hin,by simp,fun o ho e he hb => List.mem_range.2 (hc.c1 m o ho e he hb)⟩
  refine ⟨(fun hnil => by rw [hnil] at hmr;cases hmr),fun i hi => ?_⟩
  obtain ⟨h1,h2,h3⟩:=(jO0 hl hc.c1).1 hi
  have hge:m ≤ i:=by
   refine Classical.byContradiction (fun hlt => h2 (List.mem_range.2 (by omega)))
  have him:i = m:=by
   refine Classical.byContradiction (fun hne => ?_)
   have:=yJ0 (C:=(· < m)) (fun j o hj ho e he hb => by have:=hc.c1 j o ho e he hb;have hj':j < m:=hj;show e.on < m;omega) (hc.c2 i h1 (by omega) m (by omega)) (fun o ho e he hb => List.mem_range.1 (h3 o ho e he hb))
   exact absurd this (Nat.lt_irrefl _)
  subst him
  rw [List.range'_succ,wpOps_cons] at h
  refine wpOp_mono (fun a' w' h' => any_tail hc f (i + 1) _ (by omega) (by omega) ?_ a' w' h') h
  rw [List.range_succ]
  exact hl.set hin
theorem qA.draw {id:Nat} {Q:Exit→St→Prop} {tr:List Tel} (hm:P.follows .mixedOrders = true) (ht:Tr P cfg ops 0 s tr) (hc:chk ops (tr.map Tel.sh) = true) (hf:tr.all (fun t => t.e.news.all fun p => fresh s p.1) = true)
  (h:qW P cfg M ops (ops.toList.drop tr.length) (Q .normal) (tr.foldl (fun s t => s.add t.e) s)):qA P cfg M (.region id ops true) Q s:=by
 intro w0 Ok σ a w Q' hM hS hQ
 have hC:=chk_spec hc
 refine wp_region_any hm ?_
 have hS1:Sim w0 Ok cfg.N σ s a { w with drawn:=w.drawn + 1 }:=hS.world ⟨rfl,rfl,rfl,Nat.le_refl _,fun _ _ => rfl⟩
 refine any_pure ht hC (fun t htm k hk => ?_) hM.2 (fun σ' a' w' listed' hl' hS' => ?_) ops.size [] _ List.nodup_nil (by simp) (fun j o hj => nomatch hj) ⟨by simp,fun i hi => by simp [hi]⟩ (by simp) σ a _ hS1
 ·obtain ⟨p,hp,rfl⟩:=List.mem_map.1 hk
  exact kV (List.all_eq_true.1 (List.all_eq_true.1 hf t htm) p hp)
 ·have e:=foldl_stOf s tr tr.length (Nat.le_refl _)
  rw [List.take_length] at e
  rw [← e] at hS'
  refine any_tail hC (ops.size - tr.length) tr.length listed' (by have:=hC.c3;omega) (Nat.le_refl _) hl' a' w' ?_
  have h1:=h w0 Ok σ' a' w' Q' hM hS' (fun s' h' => hQ .normal s' h')
  have h2:=wpOps_eq_wpList (P:=P) (ops:=ops) (Q:=Q') (ops.toList.drop tr.length) tr.length (fun j => by rw [List.getElem?_drop];simp)
  rw [List.length_drop,Array.length_toList (xs:=ops)] at h2
  rw [h2]
  exact h1
end
end
section
structure OwnE where
 ptr:Bool
 pos:Nat
 fn:List (List D)→Nat→List (List D)→List (List D)→Option (List Res × Option (List (List D)))
structure PinE where
 ptr:Bool
 fn:Nat→List (List D)→List (List D)→Option (List Res × List (List D))
structure Tab (P:Program) where
 f:FuncId→List (List D)→Option (List Res)
 ok:∀ g ds rs,f g ds = some rs→AFn P g ds (· = rs)
 o:FuncId→Option OwnE
 oko:∀ g e,o g = some e→∀ pre k xs post r,pre.length = e.pos→e.fn pre k xs post = some r→AEf P g e.ptr pre k xs post (fun rs oc => rs = r.1∧oc = r.2)
 p:FuncId→Option PinE
 pok:∀ g e,p g = some e→∀ k xs post x,e.fn k xs post = some x→AEp P g e.ptr k xs post (fun rs xs' => rs = x.1∧xs' = x.2)
def Tab.none {P:Program}:Tab P:=⟨fun _ _ => Option.none,(fun _ _ _ h => nomatch h),fun _ => Option.none,(fun _ _ h => nomatch h),fun _ => Option.none,(fun _ _ h => nomatch h)⟩
def Tab.add {P:Program} (T:Tab P) (g:FuncId) (h:List (List D)→Option (List Res)) (ok:∀ ds rs,h ds = some rs→AFn P g ds (· = rs)):Tab P :=
 ⟨fun k ds => if k = g then h ds else T.f k ds,fun k ds rs e => by
  by_cases hk:k = g
  ·simp only [if_pos hk] at e;exact hk ▸ ok ds rs e
  ·simp only [if_neg hk] at e;exact T.ok k ds rs e,T.o,T.oko,T.p,T.pok⟩
def Tab.own {P:Program} (T:Tab P) (g:FuncId) (e:OwnE) (ok:∀ pre k xs post r,pre.length = e.pos→e.fn pre k xs post = some r→AEf P g e.ptr pre k xs post (fun rs oc => rs = r.1∧oc = r.2)):Tab P :=
 ⟨T.f,T.ok,fun k => if k = g then some e else T.o k,fun k e' h => by
  by_cases hk:k = g
  ·simp only [if_pos hk,Option.some.injEq] at h;subst h;exact hk ▸ ok
  ·simp only [if_neg hk] at h;exact T.oko k e' h,T.p,T.pok⟩
def Tab.pin {P:Program} (T:Tab P) (g:FuncId) (e:PinE) (ok:∀ k xs post x,e.fn k xs post = some x→AEp P g e.ptr k xs post (fun rs xs' => rs = x.1∧xs' = x.2)):Tab P :=
 ⟨T.f,T.ok,T.o,T.oko,fun k => if k = g then some e else T.p k,fun k e' h => by
  by_cases hk:k = g
  ·simp only [if_pos hk,Option.some.injEq] at h;subst h;exact hk ▸ ok
  ·simp only [if_neg hk] at h;exact T.pok k e' h⟩
noncomputable def atArgs (A:List (List D)) (R:List Res) (ds:List (List D)):Option (List Res):=by
 classical
 exact if ds = A then some R else Option.none
theorem atArgs_eq (A:List (List D)) (R:List Res):atArgs A R A = some R:=by unfold atArgs;rw [if_pos rfl]
theorem atArgs_ok {P:Program} {g:FuncId} {A:List (List D)} {R:List Res} (h:AFn P g A (· = R)) (ds:List (List D)) (rs:List Res) (e:atArgs A R ds = some rs):AFn P g ds (· = rs):=by
 unfold atArgs at e
 split at e
 ·rename_i e1;subst e1;cases e;exact h
 ·cases e
noncomputable def Tab.at' {P:Program} (T:Tab P) (g:FuncId) {A:List (List D)} {R:List Res} (h:AFn P g A (· = R)):Tab P:=T.add g (atArgs A R) (atArgs_ok h)
def ownKey:Bool→AV→Option Nat
 | false,.c (.own key _) => some key
 | true,.optr key 0 0 => some key
 | _,_ => none
def putE (s:St) (d key k:Nat):Option (List Res × Option (List (List D)))→Option St
 | some (rs,some ys) => if (qV d rs).2.all (fun p => fresh ⟨s.regs,(key,.row k ys false) :: drop key s.heap⟩ p.1) = true then
   some ⟨insR d (outAV (qV d rs).1) s.regs,yV (qV d rs).2 (insR key (.row k ys false) (drop key s.heap))⟩ else Option.none
 | some (rs,Option.none) => if (qV d rs).2.all (fun p => fresh ⟨killR key s.regs,drop key s.heap⟩ p.1) = true then
   some ⟨insR d (outAV (qV d rs).1) (killR key s.regs),yV (qV d rs).2 (drop key s.heap)⟩ else Option.none
 | Option.none => Option.none
theorem yZ0 (s:St) (d key k:Nat) (rs:List Res) (ys:List (List D)):putE s d key k (some (rs,some ys)) = if (qV d rs).2.all (fun p => fresh ⟨s.regs,(key,.row k ys false) :: drop key s.heap⟩ p.1) = true then
   some ⟨insR d (outAV (qV d rs).1) s.regs,yV (qV d rs).2 (insR key (.row k ys false) (drop key s.heap))⟩ else Option.none:=rfl
theorem yN0 (s:St) (d key k:Nat) (rs:List Res):putE s d key k (some (rs,Option.none)) = if (qV d rs).2.all (fun p => fresh ⟨killR key s.regs,drop key s.heap⟩ p.1) = true then
   some ⟨insR d (outAV (qV d rs).1) (killR key s.regs),yV (qV d rs).2 (drop key s.heap)⟩ else Option.none:=rfl
def rowE (cfg:Cfg) (s:St) (d:Nat) (e:OwnE) (pre post:List Operand) (tpre tpost:List TypeId) (key:Nat):Option Obj→Option St
 | some (.row k xs _) =>
  if ((qM s.regs pre).isEmpty && (qM s.regs post).isEmpty && s.heap.all (fun r => r.1 == key || !r.2.refs.contains key) && (!e.ptr || xs.length == 1) && pre.length == e.pos) = true then
   (aargs cfg (fun k => look k s.heap) s.regs pre tpre).bind fun a => (aargs cfg (fun k => look k s.heap) s.regs post tpost).bind fun b => putE s d key k (e.fn a k xs b)
  else Option.none
 | _ => Option.none
theorem rowE_row (cfg:Cfg) (s:St) (d:Nat) (e:OwnE) (pre post:List Operand) (tpre tpost:List TypeId) (key k:Nat) (xs:List (List D)) (dd:Bool):rowE cfg s d e pre post tpre tpost key (some (.row k xs dd)) =
  if ((qM s.regs pre).isEmpty && (qM s.regs post).isEmpty && s.heap.all (fun r => r.1 == key || !r.2.refs.contains key) && (!e.ptr || xs.length == 1) && pre.length == e.pos) = true then
   (aargs cfg (fun k => look k s.heap) s.regs pre tpre).bind fun a => (aargs cfg (fun k => look k s.heap) s.regs post tpost).bind fun b => putE s d key k (e.fn a k xs b)
  else Option.none:=rfl
def callE {P:Program} (cfg:Cfg) (T:Tab P) (s:St) (dst:Option Nat):Op→Option St
 | .call ⟨.value f,args,ts⟩ => dst.bind fun d => ((((opv s.regs f).bind avD).bind fnId).bind T.o).bind fun e =>
  match args.toList.drop e.pos with
  | x :: post => ((opv s.regs x).bind (ownKey e.ptr)).bind fun key => rowE cfg s d e (args.toList.take e.pos) post (ts.toList.take e.pos) (ts.toList.drop (e.pos + 1)) key (look key s.heap)
  | [] => Option.none
 | _ => Option.none
def putP (s:St) (d key:Nat) (og:Option Nat) (c k:Nat):Option (List Res × List (List D))→Option St
 | some (rs,xs') => if (qV d rs).2.all (fun p => fresh ⟨s.regs,(key,.pin og c k xs') :: drop key s.heap⟩ p.1) = true then
   some ⟨insR d (outAV (qV d rs).1) s.regs,yV (qV d rs).2 (insR key (.pin og c k xs') (drop key s.heap))⟩ else Option.none
 | Option.none => Option.none
theorem putP_some (s:St) (d key:Nat) (og:Option Nat) (c k:Nat) (rs:List Res) (xs':List (List D)):putP s d key og c k (some (rs,xs')) = if (qV d rs).2.all (fun p => fresh ⟨s.regs,(key,.pin og c k xs') :: drop key s.heap⟩ p.1) = true then
   some ⟨insR d (outAV (qV d rs).1) s.regs,yV (qV d rs).2 (insR key (.pin og c k xs') (drop key s.heap))⟩ else Option.none:=rfl
def pinE (cfg:Cfg) (s:St) (d:Nat) (e:PinE) (post:List Operand) (tpost:List TypeId) (key:Nat):Option Obj→Option St
 | some (.pin og c k xs) =>
  if ((qM s.regs post).isEmpty && s.heap.all (fun q => q.1 == key || !q.2.refs.contains key) && (!e.ptr || xs.length == 1)) = true then
   (aargs cfg (fun k => look k s.heap) s.regs post tpost).bind fun a => putP s d key og c k (e.fn k xs a)
  else Option.none
 | _ => Option.none
theorem pinE_pin (cfg:Cfg) (s:St) (d:Nat) (e:PinE) (post:List Operand) (tpost:List TypeId) (key:Nat) (og:Option Nat) (c k:Nat) (xs:List (List D)):pinE cfg s d e post tpost key (some (.pin og c k xs)) =
  if ((qM s.regs post).isEmpty && s.heap.all (fun q => q.1 == key || !q.2.refs.contains key) && (!e.ptr || xs.length == 1)) = true then
   (aargs cfg (fun k => look k s.heap) s.regs post tpost).bind fun a => putP s d key og c k (e.fn k xs a)
  else Option.none:=rfl
def callP {P:Program} (cfg:Cfg) (T:Tab P) (s:St) (dst:Option Nat):Op→Option St
 | .call ⟨.value f,args,ts⟩ => dst.bind fun d => ((((opv s.regs f).bind avD).bind fnId).bind T.p).bind fun e =>
  match args.toList with
  | x :: post => ((opv s.regs x).bind (ownKey e.ptr)).bind fun key => pinE cfg s d e post (ts.toList.drop 1) key (look key s.heap)
  | [] => Option.none
 | _ => Option.none
theorem argV_raw {cfg:Cfg} {h:Nat→Option Obj} {t:TypeId} {u:Value}:argV cfg h t (.c (.val (.raw u))) = some [.raw u]:=rfl
theorem argV_nil {cfg:Cfg} {h:Nat→Option Obj} {t:TypeId}:argV cfg h t (.c .nil) = (cfg.ty t).bind fun z => (argAV z.2 (.c .nil)).bind fun cs => (jE h z.1 cs).map fun d => d.map D.un:=rfl
theorem argV_own {cfg:Cfg} {h:Nat→Option Obj} {t:TypeId} {k n:Nat}:argV cfg h t (.c (.own k n)) = (cfg.ty t).bind fun z => (argAV z.2 (.c (.own k n))).bind fun cs => (jE h z.1 cs).map fun d => d.map D.un:=rfl
theorem argV_view {cfg:Cfg} {h:Nat→Option Obj} {t:TypeId} {k i n:Nat}:argV cfg h t (.c (.view k i n)) = (cfg.ty t).bind fun z => (argAV z.2 (.c (.view k i n))).bind fun cs => (jE h z.1 cs).map fun d => d.map D.un:=rfl
theorem argV_agg {cfg:Cfg} {h:Nat→Option Obj} {t:TypeId} {cs:List AC}:argV cfg h t (.agg cs) = (cfg.ty t).bind fun z => (argAV z.2 (.agg cs)).bind fun cs => (jE h z.1 cs).map fun d => d.map D.un:=rfl
theorem argV_sl {cfg:Cfg} {h:Nat→Option Obj} {t:TypeId} {k:Nat} {xs:List (List D)}:argV cfg h t (.c (.val (.sl k xs))) = (cfg.ty t).bind fun z => (argAV z.2 (.c (.val (.sl k xs)))).bind fun cs => (jE h z.1 cs).map fun d => d.map D.un:=rfl
theorem argV_int {cfg:Cfg} {h:Nat→Option Obj} {t:TypeId} {n:Int}:argV cfg h t (.c (.val (.int n))) = (cfg.ty t).bind fun z => (argAV z.2 (.c (.val (.int n)))).bind fun cs => (jE h z.1 cs).map fun d => d.map D.un:=rfl
theorem argV_bool {cfg:Cfg} {h:Nat→Option Obj} {t:TypeId} {n:Bool}:argV cfg h t (.c (.val (.bool n))) = (cfg.ty t).bind fun z => (argAV z.2 (.c (.val (.bool n)))).bind fun cs => (jE h z.1 cs).map fun d => d.map D.un:=rfl
theorem argV_tag {cfg:Cfg} {h:Nat→Option Obj} {t:TypeId} {F:List Nat} {d:D}:argV cfg h t (.c (.val (.tag F d))) = (cfg.ty t).bind fun z => (argAV z.2 (.c (.val (.tag F d)))).bind fun cs => (jE h z.1 cs).map fun d => d.map D.un:=rfl
theorem xP {cfg:Cfg} {h:Nat→Option Obj} {t:TypeId} {d:D} {k:Nat} {xs:List (List D)} (hd:d.un = .sl k xs):argV cfg h t (.c (.val d)) = (cfg.ty t).bind fun z => (argAV z.2 (.c (.val d))).bind fun cs => (jE h z.1 cs).map fun d => d.map D.un:=by
 cases d with
 | raw u => cases hd
 | _ => rfl
theorem cellD_vsl {z:D} {k:Nat} {xs:List (List D)}:cellD z (.val (.sl k xs)) = some (.sl k xs,false):=rfl
theorem cellD_vtag {z:D} {F:List Nat} {x:D}:cellD z (.val (.tag F x)) = some (.tag F x,false):=rfl
theorem cellD_vint {z:D} {n:Int}:cellD z (.val (.int n)) = some (.int n,true):=rfl
theorem cellD_vbool {z:D} {n:Bool}:cellD z (.val (.bool n)) = some (.bool n,true):=rfl
theorem cellD_vraw {z:D} {v:Value}:cellD z (.val (.raw v)) = some (.raw v,true):=rfl
theorem cellD_nilsl {k:Nat} {xs:List (List D)}:cellD (.sl k xs) .nil = some (.sl k [],true):=rfl
theorem cellD_own {z:D} {k n:Nat}:cellD z (.own k n) = none:=rfl
theorem cellD_view {z:D} {k i n:Nat}:cellD z (.view k i n) = none:=rfl
theorem cellD_junk {z:D}:cellD z .junk = none:=rfl
theorem un_int {n:Int}:(D.int n).un = .int n:=rfl
theorem un_bool {b:Bool}:(D.bool b).un = .bool b:=rfl
theorem un_raw {v:Value}:(D.raw v).un = .raw v:=rfl
theorem un_sl {k:Nat} {xs:List (List D)}:(D.sl k xs).un = .sl k xs:=rfl
theorem un_tag {F:List Nat} {x:D}:(D.tag F x).un = x:=rfl
theorem avun_val {d:D}:(AV.c (.val d)).un = .c (.val d.un):=rfl
theorem avun_nil:(AV.c .nil).un = .c .nil:=rfl
theorem avun_own {k n:Nat}:(AV.c (.own k n)).un = .c (.own k n):=rfl
theorem avun_view {k i n:Nat}:(AV.c (.view k i n)).un = .c (.view k i n):=rfl
def lookB {α:Type} (r:Nat):List (Nat × α)→Option α
 | [] => none
 | (i,x) :: l => bif i == r then some x else lookB r l
def insB {α:Type} (d:Nat) (v:α):List (Nat × α)→List (Nat × α)
 | [] => [(d,v)]
 | (i,x) :: l => bif i == d then (d,v) :: l else bif d - i == 0 then (d,v) :: (i,x) :: l else (i,x) :: insB d v l
def dropB {α:Type} (r:Nat):List (Nat × α)→List (Nat × α)
 | [] => []
 | (i,x) :: l => bif i == r then dropB r l else (i,x) :: dropB r l
theorem look_eq {α:Type} {r:Nat}:∀ {l:List (Nat × α)},look r l = lookB r l
 | [] => rfl
 | (i,x) :: l => by
  simp only [look,lookB,look_eq (l:=l)]
  by_cases h:i = r
  ·simp [h]
  ·rw [if_neg h,beq_eq_false_iff_ne.2 h];rfl
theorem insR_eq {α:Type} {d:Nat} {v:α}:∀ {l:List (Nat × α)},insR d v l = insB d v l
 | [] => rfl
 | (i,x) :: l => by
  simp only [insR,insB,insR_eq (l:=l)]
  by_cases h:i = d
  ·simp [h]
  ·rw [if_neg h,beq_eq_false_iff_ne.2 h,cond_false]
   by_cases h2:d < i
   ·rw [if_pos h2,show (d - i == 0) = true from beq_iff_eq.2 (by omega)];rfl
   ·rw [if_neg h2,show (d - i == 0) = false from beq_eq_false_iff_ne.2 (by omega)];rfl
theorem drop_eq {α:Type} {r:Nat}:∀ {l:List (Nat × α)},drop r l = dropB r l
 | [] => rfl
 | (i,x) :: l => by
  simp only [drop,dropB,drop_eq (l:=l)]
  by_cases h:i = r
  ·simp [h]
  ·rw [if_neg h,beq_eq_false_iff_ne.2 h];rfl
theorem opRefs_nil {regs:List (Nat × AV)}:qM regs [] = []:=rfl
theorem opRefs_cons {regs:List (Nat × AV)} {x:Operand} {xs:List Operand}:qM regs (x :: xs) = ((opv regs x).map AV.refs).getD [] ++ qM regs xs:=rfl
theorem opnd_move {x:Operand}:(Op.move x).operands.toList = [x]:=rfl
theorem opnd_assign {x:Operand}:(Op.assign x).operands.toList = [x]:=rfl
theorem opnd_load {t:TypeId} {x:Operand}:(Op.load t x).operands.toList = [x]:=rfl
theorem opnd_box {t:TypeId} {x:Operand}:(Op.box t x).operands.toList = [x]:=rfl
theorem opnd_alloc {t:TypeId}:(Op.alloc t).operands.toList = []:=rfl
theorem opnd_unOp {o:UnOp} {t:TypeId} {x:Operand}:(Op.unOp o t x).operands.toList = [x]:=rfl
theorem opnd_convert {s t:TypeId} {x:Operand}:(Op.convert s t x).operands.toList = [x]:=rfl
theorem opnd_field {t:TypeId} {x:Operand} {i:Nat}:(Op.fieldAddr t x i).operands.toList = [x]:=rfl
theorem opnd_extract {x:Operand} {i:Nat}:(Op.extract x i).operands.toList = [x]:=rfl
theorem opnd_index {t:TypeId} {x y:Operand}:(Op.indexAddr t x y).operands.toList = [x,y]:=rfl
theorem opnd_make {t:TypeId} {x y:Operand}:(Op.makeSlice t x y).operands.toList = [x,y]:=rfl
theorem opnd_bin {o:BinOp} {t u:TypeId} {x y:Operand}:(Op.binOp o t x y u).operands.toList = [x,y]:=rfl
theorem opnd_pick {x y z:Operand}:(Op.pick x y z).operands.toList = [x,y,z]:=rfl
theorem opnd_build {t:TypeId} {ps:Array (Nat × Operand)}:(Op.build t ps).operands.toList = ps.toList.map (·.2):=rfl
theorem kH0 {t:TypeId} {n:Nat} {ps:Array (Nat × Operand)}:(Op.buildSlice t n ps).operands.toList = ps.toList.map (·.2):=rfl
theorem opnd_slice {t:TypeId} {x:Operand} {l h m:Option Operand}:(Op.slice t x l h m).operands.toList = x :: (l.toList ++ h.toList ++ m.toList):=by
 cases l <;> cases h <;> cases m <;> rfl
theorem opnd_call {f:Operand} {args:Array Operand} {ts:Array TypeId}:(Op.call ⟨.value f,args,ts⟩).operands.toList = f :: args.toList:=by simp [Op.operands,Call.operands]
theorem opnd_bcall {f:Builtin} {args:Array Operand} {ts:Array TypeId}:(Op.call ⟨.builtin f,args,ts⟩).operands.toList = args.toList:=by simp [Op.operands,Call.operands]
def isCall:Op→Bool
 | .call ⟨.value _,_,_⟩ => true
 | _ => false
def vK {P:Program} (cfg:Cfg) (T:Tab P) (s:St) (dst:Option Nat):Op→Option (Nat × List Res × List Nat)
 | .call ⟨.value f,args,ts⟩ => match dst with
  | some d => (((opv s.regs f).bind avD).bind fnId).bind fun g => (aargs cfg (fun k => look k s.heap) s.regs args.toList ts.toList).bind fun ds => (T.f g ds).bind fun rs =>
   if ((qM s.regs args.toList).isEmpty || rs.all Res.scalar) = true then some (d,rs,qM s.regs args.toList) else Option.none
  | Option.none => Option.none
 | _ => Option.none
def gotT (s:St):Option (Nat × List Res × List Nat)→Option St
 | some (d,rs,_) => if (qV d rs).2.all (fun p => fresh s p.1) = true then some (s.got d rs) else Option.none
 | Option.none => Option.none
theorem gotT_some (s:St) (d:Nat) (rs:List Res) (ks:List Nat):gotT s (some (d,rs,ks)) = if (qV d rs).2.all (fun p => fresh s p.1) = true then some (s.got d rs) else Option.none:=rfl
def telT (s:St) (used:List Nat):Option (Nat × List Res × List Nat)→Option Tel
 | some (d,rs,_) => if (qV d rs).2.all (fun p => fresh s p.1) = true then some ⟨⟨d,outAV (qV d rs).1,(qV d rs).2⟩,used⟩ else Option.none
 | Option.none => Option.none
theorem telT_some (s:St) (u:List Nat) (d:Nat) (rs:List Res) (ks:List Nat):telT s u (some (d,rs,ks)) = if (qV d rs).2.all (fun p => fresh s p.1) = true then some ⟨⟨d,outAV (qV d rs).1,(qV d rs).2⟩,u⟩ else Option.none:=rfl
def qJ0 (s:St):Op→List Nat
 | .call ⟨.value _,args,_⟩ => qM s.regs args.toList
 | _ => []
theorem kE0 (s:St) (f:Operand) (args:Array Operand) (ts:Array TypeId):qJ0 s (.call ⟨.value f,args,ts⟩) = qM s.regs args.toList:=rfl
def isOwn {P:Program} (T:Tab P) (s:St):Op→Bool
 | .call ⟨.value f,_,_⟩ => ((((opv s.regs f).bind avD).bind fnId).bind T.o).isSome
 | _ => false
def isPin {P:Program} (T:Tab P) (s:St):Op→Bool
 | .call ⟨.value f,_,_⟩ => ((((opv s.regs f).bind avD).bind fnId).bind T.p).isSome
 | _ => false
def gotF {P:Program} (cfg:Cfg) (T:Tab P) (ops:Array Oper) (o:Oper) (s:St):Option (Nat × List Res × List Nat)→Option St
 | some r => gotT s (some r)
 | Option.none => if qN ops (s.frzs (qJ0 s o.op)).regs o = some true then gotT (s.frzs (qJ0 s o.op)) (vK cfg T (s.frzs (qJ0 s o.op)) o.dst o.op) else Option.none
theorem gotF_some {P:Program} (cfg:Cfg) (T:Tab P) (ops:Array Oper) (o:Oper) (s:St) (r:Nat × List Res × List Nat):gotF cfg T ops o s (some r) = gotT s (some r):=rfl
theorem gotF_none {P:Program} (cfg:Cfg) (T:Tab P) (ops:Array Oper) (o:Oper) (s:St):gotF cfg T ops o s Option.none = if qN ops (s.frzs (qJ0 s o.op)).regs o = some true then gotT (s.frzs (qJ0 s o.op)) (vK cfg T (s.frzs (qJ0 s o.op)) o.dst o.op) else Option.none:=rfl
def astepT {P:Program} (cfg:Cfg) (T:Tab P) (ops:Array Oper) (o:Oper) (s:St):Option St :=
 if isCall o.op = true then
  if dstOK cfg o = true then
   (qN ops s.regs o).bind fun b =>
    if b = true then (if isPin T s o.op = true then callP cfg T s o.dst o.op else if isOwn T s o.op = true then callE cfg T s o.dst o.op else gotF cfg T ops o s (vK cfg T s o.dst o.op))
    else some ⟨putR o.dst (.tup []) s.regs,s.heap⟩
  else Option.none
 else astep cfg ops o s
def aopsT {P:Program} (cfg:Cfg) (T:Tab P) (ops:Array Oper):List Oper→St→Option St
 | [],s => some s
 | o :: rest,s => (astepT cfg T ops o s).bind (aopsT cfg T ops rest)
section
variable {P:Program} {cfg:Cfg} {M:Nat→Prop} {T:Tab P} {w0:W0} {w w':World} {Ok:Nat→Prop} {N:Nat} {σ σ':Asg} {s s':St} {a:Act} {ops:Array Oper}
theorem acallT_spec {o:Oper} (hd:dstOK cfg o = true) (hw:qN ops s.regs o = some true) {r:Nat × List Res × List Nat} (h:vK cfg T s o.dst o.op = some r) :
  ∃ g ds nr,acall cfg ops o s = some (r.1,g,ds,nr)∧AFn P g ds (· = r.2.1)∧(nr = true ∨ r.2.1.all Res.scalar = true):=by
 obtain ⟨od,op,oty,opos,oaf,og⟩:=o
 simp only at h
 unfold vK at h
 split at h
 ·rename_i f args ts
  split at h
  ·rename_i d
   obtain ⟨g,hg,h⟩:=bind_some h
   obtain ⟨ds,hds,h⟩:=bind_some h
   obtain ⟨rs,hrs,h⟩:=bind_some h
   split at h
   ·rename_i hc
    cases h
    refine ⟨g,ds,(qM s.regs args.toList).isEmpty,?_,T.ok g ds rs hrs,?_⟩
    ·unfold acall
     rw [if_pos ⟨hw,hd⟩]
     simp only [hg,hds,Option.bind_some,Option.map_some]
    ·simpa using hc
   ·cases h
  ·cases h
 ·cases h
theorem qW.frzs {l:List Oper} {Q:St→Prop} (ks:List Nat) (h:qW P cfg M ops l Q (s.frzs ks)):qW P cfg M ops l Q s:=fun w0 Ok σ a w Q' hM hS hQ => h w0 Ok σ a w Q' hM (Sim.frzs hS) hQ
theorem qW.gotT (C:CfgOK P cfg) {o:Oper} {l:List Oper} {Q:St→Prop} (hd:dstOK cfg o = true) (hb:qN ops s.regs o = some true) (ha:gotT s (vK cfg T s o.dst o.op) = some s') (h:qW P cfg M ops l Q s'):qW P cfg M ops (o :: l) Q s:=by
 unfold Go.Proofs.YtedgfkpfhonlpaaGreat.gotT at ha
 split at ha
 ·rename_i d rs ks hr
  split at ha
  ·rename_i hfr
   cases ha
   obtain ⟨g,ds,nr,h1,h2,h3⟩:=acallT_spec hd hb hr
   exact qW.call1 C h1 h2 h3 hfr h
  ·cases ha
 ·cases ha
theorem drop_ins {α:Type} {key:Nat} {o:α}:∀ {l:List (Nat × α)},drop key (insR key o l) = drop key l
 | [] => by simp [insR,drop]
 | (i,x) :: l => by
  unfold insR
  by_cases h:i = key
  ·rw [if_pos h];simp [drop,h]
  ·rw [if_neg h]
   by_cases h2:key < i
   ·rw [if_pos h2];simp [drop,h]
   ·rw [if_neg h2]
    simp only [drop,if_neg h,drop_ins (l:=l)]
theorem qW.ofE (C:CfgOK P cfg) {o:Oper} {l:List Oper} {Q:St→Prop} (hd:dstOK cfg o = true) (hb:qN ops s.regs o = some true) (ha:callE cfg T s o.dst o.op = some s') (h:qW P cfg M ops l Q s'):qW P cfg M ops (o :: l) Q s:=by
 obtain ⟨od,op,oty,opos,oaf,og⟩:=o
 simp only at ha
 unfold callE at ha
 split at ha
 ·rename_i f args ts
  obtain ⟨d,hod,ha1⟩:=bind_some ha
  subst hod
  clear ha
  obtain ⟨e,he,ha⟩:=bind_some ha1
  clear ha1
  obtain ⟨g,hg,hTo⟩:=bind_some he
  split at ha
  ·rename_i x post hx
   obtain ⟨key,hkey,ha⟩:=bind_some ha
   obtain ⟨v,hv,hok⟩:=bind_some hkey
   unfold rowE at ha
   split at ha
   ·rename_i k xs dd hk
    split at ha
    ·rename_i hc
     obtain ⟨pre',hpre,ha⟩:=bind_some ha
     obtain ⟨post',hpost,ha⟩:=bind_some ha
     simp only [Bool.and_eq_true,List.isEmpty_iff,Bool.or_eq_true,Bool.not_eq_true',beq_iff_eq] at hc
     obtain ⟨⟨⟨⟨c1,c2⟩,c3⟩,c4⟩,c5⟩:=hc
     have hall:∀ q u,q ≠ key→look q s.heap = some u→key ∉ u.refs:=by
      intro q u hq hu
      have:=List.all_eq_true.1 c3 (q,u) (yC hu)
      simpa [hq] using this
     obtain ⟨n,hvn⟩:∃ n,v = jL e.ptr key n:=by
      cases hp:e.ptr with
      | false =>
       rw [hp] at hok
       unfold ownKey at hok
       split at hok
       ·cases hok;exact ⟨_,rfl⟩
       ·rename_i h;cases h
       ·cases hok
      | true =>
       rw [hp] at hok
       unfold ownKey at hok
       split at hok
       ·rename_i h;cases h
       ·cases hok;exact ⟨0,rfl⟩
       ·cases hok
     have hdN:d < cfg.N:=by simpa [dstOK] using hd
     have hag:∀ ys:List Operand,qM s.regs ys = []→xK (fun k => look k s.heap) (fun q => look q (insR key (.row k xs false) s.heap)) s.regs s.regs ys:=by
      intro ys hys y hy
      refine ⟨rfl,fun v hv q hq => ?_⟩
      unfold qM at hys
      have:=List.flatMap_eq_nil_iff.1 hys y hy
      rw [hv] at this
      have h':v.refs = []:=this
      rw [h'] at hq;cases hq
     intro w0 Ok σ a w Q' hM hS hQ
     refine wpList_step (fun K hK => ?_)
     have hS1:Sim w0 Ok cfg.N σ ⟨s.regs,insR key (.row k xs false) s.heap⟩ a w:=hS.weak (fun _ _ h => h) (fun q o ho => by
      rw [jU] at ho
      split at ho
      ·rename_i e;subst e;cases ho;exact ⟨_,hk,rfl,rfl,(fun h => nomatch h)⟩
      ·refine ⟨o,ho,?_⟩
       cases o with
       | row => exact ⟨rfl,rfl,id⟩
       | lit => exact ⟨rfl,rfl⟩
       | pin => exact ⟨rfl,rfl,rfl,rfl⟩)
     have hw:=xX hS hb
     rw [hw]
     simp only [if_true]
     obtain ⟨r,hr,hput⟩:∃ r,e.fn pre' k xs post' = some r∧putE s d key k (some r) = some s':=by
      cases hr:e.fn pre' k xs post' with
      | none => rw [hr] at ha;cases ha
      | some r => exact ⟨r,rfl,by rw [hr] at ha;exact ha⟩
     have hargs:args.toList = args.toList.take e.pos ++ x :: post:=by rw [← hx,List.take_append_drop]
     have hplen:pre'.length = e.pos:=by
      have h1:=((vQ C hS hpre).2 c1).len
      rw [List.length_map,c5] at h1
      exact h1.symm
     refine n_callE C hS1 (dk:=d) (x:=x) (n:=n) rfl hg hargs (by rw [jA0 (hag _ c1)];exact hpre) (by rw [jA0 (hag _ c2)];exact hpost) c1 c2 (by rw [hv,hvn]) (by rw [jU,if_pos rfl])
      (fun hp => by rcases c4 with h|h;rw [hp] at h;cases h;exact h) (fun q u hq hu => by
       simp only [jU] at hu
       rw [if_neg (fun e => hq e.symm)] at hu
       exact hall q u hq hu) (T.oko g e hTo pre' k xs post' r hplen hr) (fun rs oc hq => ?_) (fun rs oc hq v w' σ' hv hS' => ?_)
     ·obtain ⟨rfl,rfl⟩:=hq
      intro q ob hqq
      simp only [drop_ins]
      cases hoc:r.2 with
      | none =>
       obtain ⟨rs,oc⟩:=r
       simp only at hoc
       subst hoc
       rw [yN0] at hput
       split at hput
       ·rename_i hf
        rw [if_pos rfl]
        exact kV (List.all_eq_true.1 hf _ (yC hqq))
       ·cases hput
      | some ys =>
       obtain ⟨rs,oc⟩:=r
       simp only at hoc
       subst hoc
       rw [yZ0] at hput
       split at hput
       ·rename_i hf
        rw [if_neg (by simp)]
        exact kV (List.all_eq_true.1 hf _ (yC hqq))
       ·cases hput
     ·obtain ⟨rfl,rfl⟩:=hq
      unfold heapE at hv hS'
      simp only [drop_ins] at hv hS'
      obtain ⟨rs,oc⟩:=r
      cases oc with
      | none =>
       rw [yN0] at hput
       split at hput
       ·cases hput
        have hs2:∀ q o',look q (yV (qV d rs).2 (drop key s.heap)) = some o'→look q ((qV d rs).2 ++ (qT0 key k none ++ drop key s.heap)) = some o':=fun q o' ho' => by rw [vR] at ho';exact ho'
        exact hK _ _ (h w0 Ok σ' _ _ Q' hM (Sim.ins (hS'.forget (fun _ _ h => h) hs2) hdN (hv.sub hs2)) hQ)
       ·cases hput
      | some ys =>
       rw [yZ0] at hput
       split at hput
       ·cases hput
        have hs2:∀ q o',look q (yV (qV d rs).2 (insR key (.row k ys false) (drop key s.heap))) = some o'→look q ((qV d rs).2 ++ (qT0 key k (some ys) ++ drop key s.heap)) = some o':=fun q o' ho' => by
         rw [vR,yT,jU] at ho'
         rw [yT]
         exact ho'
        exact hK _ _ (h w0 Ok σ' _ _ Q' hM (Sim.ins (hS'.forget (fun _ _ h => h) hs2) hdN (hv.sub hs2)) hQ)
       ·cases hput
    ·cases ha
   ·cases ha
  ·cases ha
 ·cases ha
theorem qW.ofP (C:CfgOK P cfg) {o:Oper} {l:List Oper} {Q:St→Prop} (hd:dstOK cfg o = true) (hb:qN ops s.regs o = some true) (ha:callP cfg T s o.dst o.op = some s') (h:qW P cfg M ops l Q s'):qW P cfg M ops (o :: l) Q s:=by
 obtain ⟨od,op,oty,opos,oaf,og⟩:=o
 simp only at ha
 unfold callP at ha
 split at ha
 ·rename_i f args ts
  obtain ⟨d,hod,ha1⟩:=bind_some ha
  subst hod
  clear ha
  obtain ⟨e,he,ha⟩:=bind_some ha1
  clear ha1
  obtain ⟨g,hg,hTp⟩:=bind_some he
  split at ha
  ·rename_i x post hx
   obtain ⟨key,hkey,ha⟩:=bind_some ha
   obtain ⟨v,hv,hok⟩:=bind_some hkey
   obtain ⟨n,hvk⟩:∃ n,v = jL e.ptr key n:=by
    cases hp:e.ptr with
    | false =>
     rw [hp] at hok
     unfold ownKey at hok
     split at hok
     ·cases hok;exact ⟨_,rfl⟩
     ·rename_i h;cases h
     ·cases hok
    | true =>
     rw [hp] at hok
     unfold ownKey at hok
     split at hok
     ·rename_i h;cases h
     ·cases hok;exact ⟨0,rfl⟩
     ·cases hok
   unfold pinE at ha
   split at ha
   ·rename_i og c k xs hk
    split at ha
    ·rename_i hc
     obtain ⟨post',hpost,ha⟩:=bind_some ha
     simp only [Bool.and_eq_true,List.isEmpty_iff,Bool.or_eq_true,Bool.not_eq_true',beq_iff_eq] at hc
     obtain ⟨⟨c2,c3⟩,c4⟩:=hc
     have hall:∀ q u,q ≠ key→look q s.heap = some u→key ∉ u.refs:=by
      intro q u hq hu
      have:=List.all_eq_true.1 c3 (q,u) (yC hu)
      simpa [hq] using this
     have hdN:d < cfg.N:=by simpa [dstOK] using hd
     intro w0 Ok σ a w Q' hM hS hQ
     refine wpList_step (fun K hK => ?_)
     have hw:=xX hS hb
     rw [hw]
     simp only [if_true]
     obtain ⟨y,hy,hput⟩:∃ y,e.fn k xs post' = some y∧putP s d key og c k (some y) = some s':=by
      cases hy:e.fn k xs post' with
      | none => rw [hy] at ha;cases ha
      | some y => exact ⟨y,rfl,by rw [hy] at ha;exact ha⟩
     obtain ⟨rs,xs'⟩:=y
     rw [putP_some] at hput
     split at hput
     ·rename_i hf
      cases hput
      refine n_callP C hS (dk:=d) (x:=x) (n:=n) rfl hg hx hpost c2 (by rw [hv,hvk]) hk (fun hp => by rcases c4 with h|h;rw [hp] at h;cases h;exact h) hall (T.pok g e hTp k xs post' _ hy) (fun rs' r'' hq => ?_) (fun rs' r'' hq v' w' σ' hv' hS' => ?_)
      ·obtain ⟨rfl,rfl⟩:=hq
       intro q ob hqq
       exact kV (List.all_eq_true.1 hf _ (yC hqq))
      ·obtain ⟨rfl,rfl⟩:=hq
       have hs2:∀ q o',look q (yV (qV d rs').2 (insR key (.pin og c k r'') (drop key s.heap))) = some o'→look q ((qV d rs').2 ++ (key,.pin og c k r'') :: drop key s.heap) = some o':=fun q o' ho' => by
        rw [vR,yT,jU] at ho'
        rw [yT]
        exact ho'
       exact hK _ _ (h w0 Ok σ' _ _ Q' hM (Sim.ins (hS'.forget (fun _ _ h => h) hs2) hdN (hv'.sub hs2)) hQ)
     ·cases hput
    ·cases ha
   ·cases ha
  ·cases ha
 ·cases ha
theorem qW.stepT (C:CfgOK P cfg) {o:Oper} {l:List Oper} {Q:St→Prop} (ha:astepT cfg T ops o s = some s') (h:qW P cfg M ops l Q s'):qW P cfg M ops (o :: l) Q s:=by
 unfold astepT at ha
 split at ha
 ·rename_i hc
  split at ha
  ·rename_i hd
   obtain ⟨b,hb,ha⟩:=bind_some ha
   cases b with
   | true =>
    simp only [if_true] at ha
    split at ha
    ·exact qW.ofP C hd hb ha h
    split at ha
    ·exact qW.ofE C hd hb ha h
    unfold gotF at ha
    split at ha
    ·rename_i r hr
     exact qW.gotT C hd hb (T:=T) (by rw [hr];exact ha) h
    ·split at ha
     ·rename_i hb'
      exact qW.frzs _ (qW.gotT C hd hb' ha h)
     ·cases ha
   | false =>
    simp only [Bool.false_eq_true,if_false] at ha
    refine qW.step C (s':=s') ?_ h
    unfold astep
    rw [if_pos hd,hb]
    simp only [Option.bind_some,Bool.false_eq_true,if_false]
    exact ha
  ·cases ha
 ·exact qW.step C ha h
theorem qW.opsT (C:CfgOK P cfg):∀ {l:List Oper} {s:St} {Q:St→Prop},aopsT cfg T ops l s = some s'→Q s'→qW P cfg M ops l Q s
 | [],s,Q,h,hQ => by simp only [aopsT,Option.some.injEq] at h;subst h;exact qW.nil hQ
 | o :: l,s,Q,h,hQ => by
  simp only [aopsT] at h
  obtain ⟨s1,h1,h2⟩:=bind_some h
  exact qW.stepT C h1 (qW.opsT C h2 hQ)
def devalT (cfg:Cfg) (T:Tab P) (ops:Array Oper) (o:Oper) (s:St):Option Tel :=
 if isCall o.op = true then
  if dstOK cfg o = true then
   (qN ops s.regs o).bind fun b =>
    if b = true then telT s (qM s.regs o.op.operands.toList) (vK cfg T s o.dst o.op)
    else o.dst.map fun d => ⟨⟨d,.tup [],[]⟩,[]⟩
  else Option.none
 else deval cfg ops o s
theorem jO.skipped {i:Nat} {o:Oper} (hi:ops[i]? = some o) (C:CfgOK P cfg) (hd:dstOK cfg o = true) {d:Nat} (hdd:o.dst = some d) (hb:qN ops s.regs o = some false):jO P cfg ops i s ⟨⟨d,.tup [],[]⟩,[]⟩:=by
 refine ⟨o,hi,hdd,fun s' h1 h2 h3 w0 Ok σ a w K Q hhd hS hK => ?_⟩
 have hw:qN ops s'.regs o = some false:=by rw [qW0 h1,hb]
 have hst:astep cfg ops o s' = some (s'.add ⟨d,.tup [],[]⟩):=by
  unfold astep
  rw [if_pos hd,hw]
  simp only [Option.bind_some,Bool.false_eq_true,if_false,hdd]
  rfl
 have:=astep_wp C hS hst hK (Q:=Q)
 unfold wpOp
 simp only [hi]
 split
 ·rename_i hw2;rw [if_pos hw2] at this;exact .inl this
 ·rename_i hw2;rw [if_neg hw2] at this;exact this
theorem jO.opT (C:CfgOK P cfg) {i:Nat} {o:Oper} (hi:ops[i]? = some o) {t:Tel} (h:devalT cfg T ops o s = some t):jO P cfg ops i s t:=by
 unfold devalT at h
 split at h
 ·split at h
  ·rename_i hd
   obtain ⟨b,hb,h⟩:=bind_some h
   cases b with
   | true =>
    simp only [if_true] at h
    unfold telT at h
    split at h
    ·rename_i d rs ks hr
     split at h
     ·cases h
      obtain ⟨g,ds,nr,h1,h2,h3⟩:=acallT_spec hd hb hr
      exact jO.call C hi h1 h2 h3
     ·cases h
    ·cases h
   | false =>
    simp only [Bool.false_eq_true,if_false] at h
    obtain ⟨d,hdd,rfl⟩:=map_some h
    exact jO.skipped hi C hd hdd hb
  ·cases h
 ·exact jO.op C hi h
def drunT (cfg:Cfg) (T:Tab P) (ops:Array Oper):List Oper→St→List Tel × St × List Oper
 | [],s => ([],s,[])
 | o :: l,s => match devalT cfg T ops o s with
  | some t => ((t :: (drunT cfg T ops l (s.add t.e)).1),(drunT cfg T ops l (s.add t.e)).2)
  | Option.none => ([],s,o :: l)
theorem drunT_spec (C:CfgOK P cfg):∀ {l:List Oper} {i:Nat} {s:St},(∀ j,l[j]? = ops[i + j]?)→Tr P cfg ops i s (drunT cfg T ops l s).1 ∧
  (drunT cfg T ops l s).2.1 = (drunT cfg T ops l s).1.foldl (fun s t => s.add t.e) s∧(drunT cfg T ops l s).2.2 = l.drop (drunT cfg T ops l s).1.length
 | [],i,s,_ => ⟨trivial,rfl,rfl⟩
 | o :: l,i,s,hl => by
  have hi:ops[i]? = some o:=by have:=hl 0;simpa using this.symm
  simp only [drunT]
  cases hd:devalT cfg T ops o s with
  | none => exact ⟨trivial,rfl,rfl⟩
  | some t =>
   obtain ⟨h1,h2,h3⟩:=drunT_spec C (l:=l) (i:=i + 1) (s:=s.add t.e) (fun j => by have:=hl (j + 1);simpa [Nat.add_assoc,Nat.add_comm 1 j] using this)
   exact ⟨⟨jO.opT C hi hd,h1⟩,by simpa using h2,by simpa using h3⟩
def aregT (cfg:Cfg) (T:Tab P) (ops:Array Oper) (draw:Bool) (s:St):Option St :=
 if draw = true then
  let r:=drunT cfg T ops ops.toList s
  if chk ops (r.1.map Tel.sh) = true∧r.1.all (fun t => t.e.news.all fun p => fresh s p.1) = true then aopsT cfg T ops r.2.2 r.2.1 else Option.none
 else aopsT cfg T ops ops.toList s
theorem qA.regT (C:CfgOK P cfg) (hm:P.follows .mixedOrders = true) {id:Nat} {draw:Bool} {Q:Exit→St→Prop} (ha:aregT cfg T ops draw s = some s') (h:Q .normal s'):qA P cfg M (.region id ops draw) Q s:=by
 unfold aregT at ha
 cases draw with
 | false =>
  simp only [Bool.false_eq_true,if_false] at ha
  exact qA.region (qW.opsT C ha h)
 | true =>
  simp only [if_true] at ha
  split at ha
  ·rename_i hc
   obtain ⟨h1,h2,h3⟩:=drunT_spec (T:=T) C (ops:=ops) (l:=ops.toList) (i:=0) (s:=s) (fun j => by simp)
   refine qA.draw hm h1 hc.1 hc.2 ?_
   rw [← h2,← h3]
   exact qW.opsT C ha h
  ·cases ha
theorem qA.drawT (C:CfgOK P cfg) (hm:P.follows .mixedOrders = true) {id:Nat} {Q:Exit→St→Prop} {r:List Tel × St × List Oper} (hr:drunT cfg T ops ops.toList s = r) (h1:chk ops (r.1.map Tel.sh) = true)
  (h2:r.1.all (fun t => t.e.news.all fun p => fresh s p.1) = true) (h3:aopsT cfg T ops r.2.2 r.2.1 = some s') (h:Q .normal s'):qA P cfg M (.region id ops true) Q s:=by
 refine qA.regT (T:=T) C hm (s':=s') ?_ h
 unfold aregT
 simp only [if_true,hr]
 rw [if_pos ⟨h1,h2⟩]
 exact h3
end
inductive Fr where
 | seq (c:Code)
 | blk (id:Nat)
def outK (P:Program) (cfg:Cfg) (M:Nat→Prop):List Fr→(Exit→St→Prop)→Exit→St→Prop
 | [],Q,e,s => Q e s
 | .seq d :: fs,Q,.normal,s => qA P cfg M d (outK P cfg M fs Q) s
 | .seq _ :: fs,Q,e,s => outK P cfg M fs Q e s
 | .blk i :: fs,Q,.exit j,s => if j = i then outK P cfg M fs Q .normal s else outK P cfg M fs Q (.exit j) s
 | .blk _ :: fs,Q,e,s => outK P cfg M fs Q e s
def qJ (P:Program) (cfg:Cfg) (M:Nat→Prop) (c:Code) (fs:List Fr) (Q:Exit→St→Prop) (s:St):Prop:=qA P cfg M c (outK P cfg M fs Q) s
section
variable {P:Program} {cfg:Cfg} {M:Nat→Prop} {T:Tab P} {s s':St} {fs:List Fr} {Q:Exit→St→Prop}
theorem qJ.of {c:Code} (h:qJ P cfg M c [] Q s):qA P cfg M c Q s:=h
theorem qJ.seq {a b:Code} (h:qJ P cfg M a (.seq b :: fs) Q s):qJ P cfg M (.seq a b) fs Q s:=by
 refine qA.seq (qA.mono h (fun e s' h' => ?_))
 cases e <;> exact h'
theorem qJ.block {i:Nat} {a:Code} (h:qJ P cfg M a (.blk i :: fs) Q s):qJ P cfg M (.block i a) fs Q s:=by
 refine qA.block (qA.mono h (fun e s' h' => ?_))
 cases e <;> exact h'
theorem qJ.blockS {i:Nat} {a b:Code} (h:qJ P cfg M (.seq a b) (.blk i :: fs) Q s):qJ P cfg M (.block i (.seq a b)) fs Q s:=qJ.block h
theorem qJ.blockR {i j:Nat} {ops:Array Oper} {dr:Bool} (h:qJ P cfg M (.region j ops dr) (.blk i :: fs) Q s):qJ P cfg M (.block i (.region j ops dr)) fs Q s:=qJ.block h
theorem qJ.blockC {i:Nat} {c:Operand} {a b:Code} (h:qJ P cfg M (.cond c a b) (.blk i :: fs) Q s):qJ P cfg M (.block i (.cond c a b)) fs Q s:=qJ.block h
theorem qJ.blockB {i j:Nat} {a:Code} (h:qJ P cfg M (.block j a) (.blk i :: fs) Q s):qJ P cfg M (.block i (.block j a)) fs Q s:=qJ.block h
theorem qJ.regS (C:CfgOK P cfg) (T:Tab P) {id:Nat} {ops:Array Oper} (ha:aopsT cfg T ops ops.toList s = some s') (h:outK P cfg M fs Q .normal s'):qJ P cfg M (.region id ops false) fs Q s:=qA.region (qW.opsT C ha h)
theorem qJ.regD (C:CfgOK P cfg) (T:Tab P) (hm:P.follows .mixedOrders = true) {id:Nat} {ops:Array Oper} {tr:List Tel} {s1:St} {rest:List Oper} (hr:drunT cfg T ops ops.toList s = (tr,s1,rest)) (h1:chk ops (tr.map Tel.sh) = true)
  (h2:tr.all (fun t => t.e.news.all fun p => fresh s p.1) = true) (h3:aopsT cfg T ops rest s1 = some s') (h:outK P cfg M fs Q .normal s'):qJ P cfg M (.region id ops true) fs Q s:=qA.drawT C hm hr h1 h2 h3 h
theorem qJ.condF {c:Operand} {x y:Code} (hc:(opv s.regs c).bind avB = some false) (h:qJ P cfg M y fs Q s):qJ P cfg M (.cond c x y) fs Q s:=qA.cond hc (fun e => nomatch e) (fun _ => h)
def cutR (k:Nat):List (Nat × AV)→List (Nat × AV)
 | [] => []
 | (i,x) :: l => bif k - i == 0 then [] else (i,x) :: cutR k l
theorem look_cutR {k r:Nat} {v:AV}:∀ {l:List (Nat × AV)},look r (cutR k l) = some v→look r l = some v
 | [],h => by cases h
 | (i,x) :: l,h => by
  simp only [cutR] at h
  cases hb:(k - i == 0) with
  | true => rw [hb] at h;cases h
  | false =>
   rw [hb] at h
   simp only [cond_false,look] at h ⊢
   split
   ·rename_i e;rw [if_pos e] at h;exact h
   ·rename_i e;rw [if_neg e] at h;exact look_cutR h
theorem qJ.cut {c:Code} (k:Nat) {l:List (Nat × AV)} {H:List (Nat × Obj)} {rs:List (Nat × AV)} (e:cutR k rs = l) (h:qJ P cfg M c fs Q ⟨l,H⟩):qJ P cfg M c fs Q ⟨rs,H⟩ :=
 fun w0 Ok σ a w Q' hM hS hQ => h w0 Ok σ a w Q' hM (hS.forget (fun _ _ hr => look_cutR (e ▸ hr)) (fun _ _ hr => hr)) hQ
theorem qJ.exit {i:Nat} (h:outK P cfg M fs Q (.exit i) s):qJ P cfg M (.exit i) fs Q s:=qA.exit h
theorem qJ.ret (h:outK P cfg M fs Q .ret s):qJ P cfg M .ret fs Q s:=qA.ret h
theorem qJ.skip (h:outK P cfg M fs Q .normal s):qJ P cfg M .skip fs Q s:=qA.skip h
theorem qJ.label {l:Nat} (h:outK P cfg M fs Q .normal s):qJ P cfg M (.label l) fs Q s:=qA.label h
theorem qJ.next {d:Code} (h:qJ P cfg M d fs Q s):outK P cfg M (.seq d :: fs) Q .normal s:=h
theorem outK.blkN {i:Nat} (h:outK P cfg M fs Q .normal s):outK P cfg M (.blk i :: fs) Q .normal s:=h
theorem outK.blkR {i:Nat} (h:outK P cfg M fs Q .ret s):outK P cfg M (.blk i :: fs) Q .ret s:=h
theorem outK.seqR {d:Code} (h:outK P cfg M fs Q .ret s):outK P cfg M (.seq d :: fs) Q .ret s:=h
theorem outK.seqX {d:Code} {i:Nat} (h:outK P cfg M fs Q (.exit i) s):outK P cfg M (.seq d :: fs) Q (.exit i) s:=h
theorem outK.blkX {i:Nat} (h:outK P cfg M fs Q .normal s):outK P cfg M (.blk i :: fs) Q (.exit i) s:=by
 show if i = i then _ else _
 rw [if_pos rfl];exact h
theorem outK.blkO {i j:Nat} (hij:decide (j = i) = false) (h:outK P cfg M fs Q (.exit j) s):outK P cfg M (.blk i :: fs) Q (.exit j) s:=by
 show if j = i then _ else _
 rw [if_neg (of_decide_eq_false hij)];exact h
theorem qJ.keep {c:Code} (rs ks:List Nat) (h:qJ P cfg M c fs Q (s.keep rs ks)):qJ P cfg M c fs Q s:=qA.keep rs ks h
theorem qJ.fits {c:Code} {s0:St} (h:jG s s0) (k:qJ P cfg M c fs Q s0):qJ P cfg M c fs Q s:=qA.fits h k
theorem qA.monoF {c:Code} {Q1:Exit→St→Prop} (h:qA P cfg M c Q1 s) (hq:∀ e s',Q1 e s'→∃ s0,(s0 = s' ∨ jG s' s0)∧Q e s0):qA P cfg M c Q s :=
 fun w0 Ok σ a w Q' hM hS hQ => h w0 Ok σ a w Q' hM hS (fun e s' h1 => by
  obtain ⟨s0,h2,h3⟩:=hq e s' h1
  rcases h2 with rfl|h2
  ·exact hQ e _ h3
  ·exact After.fits h2 (hQ e s0 h3))
def Work {α:Type} (a b:α):Prop:=a = b
theorem Work.mk {α:Type} {a b:α} (h:a = b):Work a b:=h
def ChkD (ops:Array Oper) (tr:List Tel):Prop:=chk ops (tr.map Tel.sh) = true
theorem ChkD.mk {ops:Array Oper} {tr:List Tel} (h:chk ops (tr.map Tel.sh) = true):ChkD ops tr:=h
theorem qJ.wS (C:CfgOK P cfg) (T:Tab P) {id:Nat} {ops:Array Oper} (ha:Work (aopsT cfg T ops ops.toList s) (some s')) (h:outK P cfg M fs Q .normal s'):qJ P cfg M (.region id ops false) fs Q s:=qJ.regS C T ha h
def dregT (cfg:Cfg) (T:Tab P) (ops:Array Oper) (s:St):List Tel × St × List Oper→Option (List Tel × St)
 | (tr,s1,rest) => if tr.all (fun t => t.e.news.all fun p => fresh s p.1) = true then (aopsT cfg T ops rest s1).map fun s' => (tr,s') else Option.none
theorem dregT_mk (cfg:Cfg) (T:Tab P) (ops:Array Oper) (s:St) (tr:List Tel) (s1:St) (rest:List Oper):dregT cfg T ops s (tr,s1,rest) = if tr.all (fun t => t.e.news.all fun p => fresh s p.1) = true then (aopsT cfg T ops rest s1).map fun s' => (tr,s') else Option.none:=rfl
theorem qJ.wD (C:CfgOK P cfg) (T:Tab P) (hm:P.follows .mixedOrders = true) {id:Nat} {ops:Array Oper} {tr:List Tel} (hr:Work (dregT cfg T ops s (drunT cfg T ops ops.toList s)) (some (tr,s'))) (h1:ChkD ops tr)
  (h:outK P cfg M fs Q .normal s'):qJ P cfg M (.region id ops true) fs Q s:=by
 have hr:dregT cfg T ops s (drunT cfg T ops ops.toList s) = some (tr,s'):=hr
 obtain ⟨⟨tr0,s1,rest⟩,e⟩:∃ r,r = drunT cfg T ops ops.toList s:=⟨_,rfl⟩
 rw [← e,dregT_mk] at hr
 split at hr
 ·rename_i hf
  obtain ⟨s2,h3,h4⟩:=map_some hr
  cases h4
  exact qJ.regD C T hm e.symm h1 hf h3 h
 ·cases hr
theorem qJ.wC {c:Operand} {x y:Code} {b:Bool} (hc:Work ((opv s.regs c).bind avB) (some b)) (h:qJ P cfg M (bif b then x else y) fs Q s):qJ P cfg M (.cond c x y) fs Q s:=by
 refine qA.cond hc (fun e => ?_) (fun e => ?_)
 ·rw [e] at h;exact h
 ·rw [e] at h;exact h
theorem qJ.wT (k:Nat) {x y:Code} {l:List (Nat × AV)} {H:List (Nat × Obj)} {rs:List (Nat × AV)} (e:cutR k rs = l) (h:qJ P cfg M x fs Q ⟨l,H⟩):qJ P cfg M (bif true then x else y) fs Q ⟨rs,H⟩:=qJ.cut k e h
theorem qJ.wF (k:Nat) {x y:Code} {l:List (Nat × AV)} {H:List (Nat × Obj)} {rs:List (Nat × AV)} (e:cutR k rs = l) (h:qJ P cfg M y fs Q ⟨l,H⟩):qJ P cfg M (bif false then x else y) fs Q ⟨rs,H⟩:=qJ.cut k e h
def qY {β γ:Type} (P:Program) (cfg:Cfg) (M:Nat→Prop) (fs:List Fr) (Q:Exit→St→Prop) (id:Nat) (go:β→Prop) (S:β→St) (J:γ→Prop) (E:γ→St):Exit→St→Prop
 | .normal,s => ∃ y,go y∧jG s (S y)
 | .exit j,s => if j = id then ∃ z,J z∧jG s (E z) else outK P cfg M fs Q (.exit j) s
 | e,s => outK P cfg M fs Q e s
theorem qY.on {β γ:Type} {id:Nat} {go:β→Prop} {S:β→St} {J:γ→Prop} {E:γ→St} (y:β) (h:go y) (hf:jG s (S y)):outK P cfg M [] (qY P cfg M fs Q id go S J E) .normal s:=⟨y,h,hf⟩
theorem qY.out {β γ:Type} {id:Nat} {go:β→Prop} {S:β→St} {J:γ→Prop} {E:γ→St} (z:γ) (h:J z) (hf:jG s (E z)):outK P cfg M [] (qY P cfg M fs Q id go S J E) (.exit id) s:=by
 show if id = id then _ else _
 rw [if_pos rfl];exact ⟨z,h,hf⟩
theorem qY.ret {β γ:Type} {id:Nat} {go:β→Prop} {S:β→St} {J:γ→Prop} {E:γ→St} (h:outK P cfg M fs Q .ret s):outK P cfg M [] (qY P cfg M fs Q id go S J E) .ret s:=h
theorem jG.nil:jG s ⟨[],[]⟩:=⟨(fun _ h => nomatch h),(fun _ h => nomatch h)⟩
theorem jG.reg {r:Nat} {v:AV} {l:List (Nat × AV)} {H:List (Nat × Obj)} (h:look r s.regs = some v) (k:jG s ⟨l,H⟩):jG s ⟨(r,v) :: l,H⟩:=⟨List.forall_mem_cons.2 ⟨h,k.1⟩,k.2⟩
theorem jG.obj {q:Nat} {o o':Obj} {l:List (Nat × AV)} {H:List (Nat × Obj)} (h:look q s.heap = some o') (hw:wk o o') (k:jG s ⟨l,H⟩):jG s ⟨l,(q,o) :: H⟩:=⟨k.1,List.forall_mem_cons.2 ⟨⟨o',h,hw⟩,k.2⟩⟩
theorem wk.same {k:Nat} {xs xs':List (List D)} {d d':Bool} (h:xs' = xs) (hd:d = true→d' = true):wk (.row k xs d) (.row k xs' d'):=⟨rfl,h,hd⟩
theorem Ends.mk {fn:Func} {Q0:List Res→Prop} {e:Exit} {rs:List Res} {ks:List Nat} (he:e = .normal ∨ e = .ret) {rvs:List ResultVar} {ts:List TypeId} (h1:fn.results.toList = rvs) (h2:fn.resultTypes.toList = ts)
  (h:jI cfg s rvs ts = some (rs,ks)) (hk:ks.Nodup) (hq:Q0 rs):outK P cfg M [] (Ends cfg M fn Q0) e s:=⟨he,rs,ks,rs,by rw [h1,h2];exact h,hk,.inl rfl,hq⟩
theorem Ends.un {fn:Func} {Q0:List Res→Prop} {e:Exit} {r r':Res} {l:List Res} {ks:List Nat} (he:e = .normal ∨ e = .ret) {rvs:List ResultVar} {ts:List TypeId} (h1:fn.results.toList = rvs) (h2:fn.resultTypes.toList = ts)
  (h:jI cfg s rvs ts = some (r :: l,ks)) (hk:ks.Nodup) (hl:∀ x ∈ l,∃ d,x = .val d∧isSl d = false) (hu:Un1 M r r') (hq:Q0 (r' :: l)):outK P cfg M [] (Ends cfg M fn Q0) e s :=
 ⟨he,_,ks,_,by rw [h1,h2];exact h,hk,.inr ⟨r,r',l,rfl,rfl,hl,hu⟩,hq⟩
theorem qJ.frz {c:Code} (key:Nat) (h:qJ P cfg M c fs Q (s.frz key)):qJ P cfg M c fs Q s:=fun w0 Ok σ a w Q' hM hS hQ => h w0 Ok σ a w Q' hM (Sim.frz hS key) hQ
theorem qJ.loop {β γ:Type} (S:β→St) (I:β→Prop) (μ:β→Nat) (E:γ→St) (J:γ→Prop) (x0:β) {id:Nat} {c:Code} (h0:I x0) (hs:jG s (S x0))
  (round:∀ x,I x→qJ P cfg M c [] (qY P cfg M fs Q id (fun y => I y∧μ y < μ x) S J E) (S x))
  (out:∀ z,J z→outK P cfg M fs Q .normal (E z)):qJ P cfg M (.block id (.loop c)) fs Q s:=by
 refine qA.monoF (Q1:=fun e s' => match e with|.normal => ∃ z,J z∧jG s' (E z)|e => outK P cfg M fs Q e s') ?_ (fun e s' h => ?_)
 ·refine qA.block (qA.loop S I μ x0 h0 hs (fun x hx => qA.mono (round x hx) (fun e s' h => ?_)))
  cases e with
  | normal => obtain ⟨y,⟨h1,h2⟩,h3⟩:=h;exact ⟨y,h1,h2,h3⟩
  | exit j =>
   have h':if j = id then ∃ z,J z∧jG s' (E z) else outK P cfg M fs Q (.exit j) s':=h
   show if j = id then _ else _
   by_cases hj:j = id
   ·rw [if_pos hj] at h' ⊢;exact h'
   ·rw [if_neg hj] at h' ⊢;exact h'
  | _ => exact h
 ·cases e with
  | normal => obtain ⟨z,h1,h2⟩:=h;exact ⟨E z,.inr h2,out z h1⟩
  | _ => exact ⟨s',.inl rfl,h⟩
end
end
end Go.Proofs.YtedgfkpfhonlpaaGreat

/- Lemmas (13). -/
import Derived.Laws.Concat
import Derived.Laws.Entries
import Derived.Laws.Small
import Derived.Laws.Strings
import Derived.Lib.AppendZeros
import Derived.Test.YtedgfkpfhonlpaaGreatZI4
import Derived.Test.YtedgfkpfhonlpaaGreatZI5
import Derived.Test.YtedgfkpfhonlpaaGreatZI6
import Derived.Test.YtedgfkpfhonlpaaGreatZI7
import Derived.Test.YtedgfkpfhonlpaaGreatZI8
import Derived.Test.YtedgfkpfhonlpaaGreatZI9
import Derived.Test.YtedgfkpfhonlpaaGreatZI10
import Derived.Test.YtedgfkpfhonlpaaGreatZI11
import Derived.Test.YtedgfkpfhonlpaaGreatZI12
set_option maxHeartbeats 16000000
set_option maxRecDepth 100000
set_option linter.unusedSimpArgs false
set_option linter.unusedVariables false
namespace Go.Proofs.YtedgfkpfhonlpaaGreat
open Go.RowKit
section
section
variable {P:Program} {α:Type} {R:Rep α} {e:α→List D}
theorem own_out (E:Enc R e) {lo hi:Nat} {w:World} {v:Value} {xs:List α} (h:Own (RS R) lo hi w [v] xs):∃ og c G ds' d,v = slv og xs.length c∧Row w (slv og xs.length c) R.k xs.length ds' og∧(og.toList ++ G).Nodup∧(∀ b ∈ og.toList ++ G,lo ≤ b∧b < hi)∧ownL (RK R.k R.kpos (RC d)) w ds' (xs.map e) G:=by
 obtain ⟨F,⟨v',og,ds',G,e1,hrow,hel,rfl⟩,hn,hlt⟩:=h
 obtain rfl:v = v':=by simpa using e1
 obtain ⟨d,hel'⟩:=enc_ownL E hel
 obtain ⟨oa,c,ev,k1,k2,k3,k4⟩:=hrow.value
 have hv':v = slv og xs.length c:=by
  cases og with
  | none =>
   have h0:=hrow.len0
   have hoa:oa = none:=k4
   rw [ev,hoa,h0,k3 hoa];rfl
  | some g => rw [ev,k4];rfl
 exact ⟨og,c,G,ds',d,hv',by rw [← hv'];exact hrow,hn,hlt,hel'⟩
theorem own_relR (E:Enc R e) {lo hi:Nat} {w:World} {v:Value} {xs:List α} (h:Own (RS R) lo hi w [v] xs):∃ G X,G.Nodup∧(∀ b ∈ G,lo ≤ b∧b < hi)∧v.oneCell' = true∧∀ A M Y,relR A M w Y (.own R.k (xs.map e) true) v G X:=by
 obtain ⟨og,c,G,ds',d,hv,hrow,hn,hlt,hel⟩:=own_out E h
 refine ⟨og.toList ++ G,og.toList,hn,hlt,by rw [hv];cases og <;> rfl,fun A M Y => ?_⟩
 exact ⟨og,c,G,ds',by rw [List.length_map];exact hv,by rw [List.length_map,hv];exact hrow,R.kpos,rfl,rfl,d,R.kpos,hel⟩
theorem int_rel (A:Nat→Prop) (w:World) {c:Int} (hc:qC c):rdV A w (.int .i64 c) (.int c):=jZ.2 ⟨rfl,hc⟩
theorem AFn.of_oc (E:Enc R e) {f:FuncId} {ds:List (List D)} {xs:List α} {c:Int} (hc:qC c) (eg:∀ args w,(callFunc f args).run P w = .ok (.enter f args) w)
  (h:∀ (w:World) (A:Nat→Prop) vs,qO A w ds vs→Calls P f vs.toArray w (RetOC (RS R) w xs c)):AFn P f ds (· = [.own R.k (xs.map e) true,.val (.int c)]):=by
 refine ⟨eg,fun A w vs hA hv => (h w A vs hv).mono ?_⟩
 rintro e' w' ⟨v,rfl,ho,hb⟩
 obtain ⟨G,X,h1,h2,h3,h4⟩:=own_relR E ho
 exact ⟨_,_,rfl,rfl,hb,[v,.int .i64 c],G,X,rfl,h1,fun b hb' => (h2 b hb').1,v,[.int .i64 c],G,[],X,[],rfl,by simp,by simp,h3,h4 _ _ _,.int .i64 c,[],[],[],[],[],rfl,rfl,rfl,rfl,⟨int_rel _ _ hc,rfl,rfl⟩,rfl,rfl,rfl⟩
end
end
section
section
variable {P:Program} {cfg:Cfg} {M:Nat→Prop} {ops:Array Oper} {s:St}
theorem qY.gives (o:Oper) {l:List Oper} {Q:St→Prop} {d:Nat} {av:AV} (hg:o.guard = none) (hd:o.dst = some d) (hdN:d < cfg.N)
  (hG:∀ {w0:W0} {Ok σ a w},Sim w0 Ok cfg.N σ s a w→yS P a w o (relAV σ s.heap w av)) (h:qY P cfg M ops l Q ⟨insR d av s.regs,s.heap⟩):qY P cfg M ops (o :: l) Q s:=by
 intro w0 Ok σ a w Q' hM hS hQ
 refine wpList_step (fun K hK => ?_)
 have hw:qM ops s.regs o = some true:=by unfold qM;rw [hg]
 rw [yK hS hw]
 simp only [if_true]
 obtain ⟨v,h1,h2⟩:=hG hS
 unfold Oper.wp
 rw [h1]
 show K (a.put o.dst _) _
 rw [hd]
 exact hK _ _ (h w0 Ok σ _ _ Q' hM (Sim.ins hS hdN h2) hQ)
end
end
section
section
variable {P:Program} {α:Type} {R:Rep α} {e:α→List D}
end
theorem a_treeText (n:Nat) (t:List Int) (h:qW t) (hn:t.length ≤ n) (h6:t.length ≤ 1000000):AFn Tryz.prog 124 [eL t] (· = [.val (.raw (bstr (txtF n t)))]) :=
 AFn.of_v (enters_of Tryz.func124 rfl rfl) (fun _ _ => jL.2 ⟨rfl,rfl⟩) (fun w A vs h' => by
  obtain ⟨v,rfl,hr⟩:=tab_one h'
  exact c_impl_treeText n v t w hr h hn h6)
end
section
theorem qZ0:∀ (a b:List UInt8) (st:List (List Int) × Nat),rfRun (a ++ b) st = (rfRun a st).bind (rfRun b)
 | [],b,st => rfl
 | c :: a,b,st => by
  show (xG st c).bind (rfRun (a ++ b)) = ((xG st c).bind (rfRun a)).bind (rfRun b)
  cases h:xG st c with
  | none => rfl
  | some y => exact qZ0 a b y
theorem rf_open (out:List (List Int)) (cur:List Int) (d:Nat) (h:0 < d):xG (out ++ [cur],d) 91 = some (out ++ [cur ++ [(d:Int)]],d + 1):=by
 unfold xG
 rw [if_pos (by decide)]
 show some (if d = 0 then _ else _) = _
 rw [if_neg (by omega)]
 simp
theorem rf_close (st:List (List Int)) (d:Nat):xG (st,d + 1) 93 = some (st,d):=by
 unfold xG
 rw [if_neg (by decide),if_pos ⟨by decide,Nat.succ_pos d⟩]
 rfl
theorem rf_list {f:List Int→List UInt8} (e:Nat):∀ (bs:List (List Int)),(∀ b ∈ bs,∀ out cur,rfRun (f b) (out ++ [cur],e) = some (out ++ [cur ++ b.map (· + (e:Int))],e)) →
  ∀ out cur,rfRun (bs.flatMap f) (out ++ [cur],e) = some (out ++ [cur ++ bs.flatMap fun b => b.map (· + (e:Int))],e)
 | [],_,out,cur => by simp [rfRun]
 | b :: bs,h,out,cur => by
  rw [List.flatMap_cons,qZ0,h b (by simp)]
  show rfRun (bs.flatMap f) (out ++ [cur ++ b.map (· + (e:Int))],e) = _
  rw [rf_list e bs (fun x hx => h x (by simp [hx]))]
  rw [List.flatMap_cons,List.append_assoc]
theorem rf_in:∀ (n:Nat) (t:List Int),qW t→t.length ≤ n→∀ (d:Nat),0 < d→∀ out cur,rfRun (txtF n t) (out ++ [cur],d) = some (out ++ [cur ++ t.map (· + (d:Int))],d)
 | 0,t,h,hn,d,_,out,cur => by have:=h.pos;omega
 | n + 1,t,h,hn,d,hd,out,cur => by
  show rfRun (91 :: ((brs t).flatMap (txtF n)) ++ [93]) _ = _
  rw [List.cons_append]
  show (xG (out ++ [cur],d) 91).bind (rfRun ((brs t).flatMap (txtF n) ++ [93])) = _
  rw [rf_open out cur d hd]
  show rfRun ((brs t).flatMap (txtF n) ++ [93]) (out ++ [cur ++ [(d:Int)]],d + 1) = _
  rw [qZ0,rf_list (d + 1) (brs t) (fun b hb o c => rf_in n b (jC h b hb) (by have:=yE h b hb;omega) (d + 1) (Nat.succ_pos d) o c)]
  show (xG (_,d + 1) 93).bind (rfRun []) = _
  rw [rf_close]
  show some (_,d) = _
  have e:t = qB (brs t):=(jX0 h).symm
  congr 4
  rw [List.append_assoc]
  congr 1
  conv => rhs;rw [e]
  unfold qB
  simp only [List.map_cons,List.map_flatMap,List.map_map,List.singleton_append,Int.zero_add]
  congr 2
  funext b
  apply List.map_congr_left
  intro x _
  simp only [Function.comp_def]
  omega
theorem rf_top (n:Nat) (t:List Int) (h:qW t) (hn:t.length ≤ n + 1) (out:List (List Int)):rfRun (txtF (n + 1) t) (out,0) = some (out ++ [t],0):=by
 show rfRun (91 :: ((brs t).flatMap (txtF n)) ++ [93]) _ = _
 rw [List.cons_append]
 show (xG (out,0) 91).bind (rfRun ((brs t).flatMap (txtF n) ++ [93])) = _
 show rfRun ((brs t).flatMap (txtF n) ++ [93]) (out ++ [[0]],1) = _
 rw [qZ0,rf_list 1 (brs t) (fun b hb o c => rf_in n b (jC h b hb) (by have:=yE h b hb;omega) 1 (by decide) o c)]
 show (xG (_,0 + 1) 93).bind (rfRun []) = _
 rw [rf_close]
 show some (_,0) = _
 congr 4
 conv => rhs;rw [← jX0 h]
 rfl
theorem rf_show (n:Nat):∀ (L:List (List Int)),(∀ t ∈ L,qW t∧t.length ≤ n + 1)→∀ out,rfRun (L.flatMap (txtF (n + 1))) (out,0) = some (out ++ L,0)
 | [],_,out => by simp [rfRun]
 | t :: L,h,out => by
  rw [List.flatMap_cons,qZ0,rf_top n t (h t (by simp)).1 (h t (by simp)).2]
  show rfRun (L.flatMap (txtF (n + 1))) (out ++ [t],0) = _
  rw [rf_show n L (fun x hx => h x (by simp [hx])),List.append_assoc]
  rfl
inductive Lin:List Int→Nat→List UInt8→Prop
 | nil:Lin [] 0 []
 | opn {l d s}:Lin l d s→Lin (l ++ [(d:Int)]) (d + 1) (s ++ [91])
 | cls {l d s}:Lin l (d + 1) s→Lin l d (s ++ [93])
end
section
def rowA:Obj→Option (List AC)
 | .lit _ [r] => some r
 | .row _ [r] _ => some (r.map .val)
 | _ => none
def kJ (h:Nat→Option Obj):AV→Option (List AC)
 | .optr key 0 j => (h key).bind fun o => (rowA o).map (·.drop j)
 | _ => none
def aloadA (z:List D) (st:Bool) (cs:List AC):Option AV :=
 if st then (if z.length ≤ cs.length then some (.agg (cs.take z.length)) else none) else (cs[0]?).map .c
section
variable {P:Program} {cfg:Cfg} {M:Nat→Prop} {ops:Array Oper} {s s':St} {w0:W0} {w:World} {Ok:Nat→Prop} {N:Nat} {σ:Asg} {a:Act} {fs:List Fr} {Q:Exit→St→Prop} {T:Tab P} {H:List (Nat × Obj)}
theorem rdCs.toA:∀ {x:List D} {us:List Value},rdCs (Zn σ H w) w us x→relCs σ H w (x.map .val) us
 | [],us,h => List.eq_nil_of_length_eq_zero (by rw [h.len];rfl)
 | y :: x,us,h => by
  obtain ⟨u,us',rfl,h3,h4⟩:=h.cons_inv
  exact ⟨u,us',rfl,h3.one,h3,rdCs.toA h4⟩
theorem relCs.len:∀ {x:List AC} {us:List Value},relCs σ H w x us→us.length = x.length
 | [],_,h => by rw [show _ = [] from h];rfl
 | y :: x,_,⟨u,us',e,_,_,h⟩ => by rw [e,List.length_cons,List.length_cons,relCs.len h]
theorem relCs.nth:∀ {x:List AC} {us:List Value},relCs σ H w x us→∀ {j:Nat} {y:AC},x[j]? = some y→∃ v,us[j]? = some v∧v.oneCell' = true∧relAC σ H w y v
 | y :: x,_,⟨u,us',e,h1,h2,h⟩,0,_,hj => by cases hj;rw [e];exact ⟨u,rfl,h1,h2⟩
 | y :: x,_,⟨u,us',e,h1,h2,h⟩,j + 1,_,hj => by rw [e];exact relCs.nth h (by simpa using hj)
theorem relCs.dropA:∀ {j:Nat} {x:List AC} {us:List Value},relCs σ H w x us→relCs σ H w (x.drop j) (us.drop j)
 | 0,_,_,h => h
 | j + 1,[],us,h => by rw [show us = [] from h];rfl
 | j + 1,y :: x,_,⟨u,us',e,_,_,h⟩ => by rw [e];exact relCs.dropA (j:=j) h
theorem relCs.takeA:∀ {j:Nat} {x:List AC} {us:List Value},relCs σ H w x us→relCs σ H w (x.take j) (us.take j)
 | 0,_,_,_ => by simp [relCs]
 | j + 1,[],us,h => by rw [show us = [] from h];rfl
 | j + 1,y :: x,_,⟨u,us',e,h1,h2,h⟩ => by rw [e];exact ⟨u,us'.take j,rfl,h1,h2,relCs.takeA (j:=j) h⟩
theorem relCs.appA:∀ {x y:List AC} {us vs:List Value},relCs σ H w x us→relCs σ H w y vs→relCs σ H w (x ++ y) (us ++ vs)
 | [],_,_,_,h,k => by rw [show _ = [] from h];exact k
 | z :: x,_,_,_,⟨u,us',e,h1,h2,h⟩,k => by rw [e];exact ⟨u,_,rfl,h1,h2,relCs.appA h k⟩
theorem Sim.rowA (h:Sim w0 Ok N σ s a w) {key:Nat} {o:Obj} (hk:look key s.heap = some o) {r:List AC} (hr:rowA o = some r) :
  o.len = 1∧0 < o.k∧∃ us,us.length = o.k∧Row w (slv (σ.g key) o.len (σ.cap key)) o.k o.len us (σ.g key)∧relCs σ s.heap w r us:=by
 unfold Go.Proofs.YtedgfkpfhonlpaaGreat.rowA at hr
 split at hr
 ·rename_i k r'
  cases hr
  obtain ⟨ds,hrow,hkp,hel⟩:=(h.rows key _ hk).row
  obtain ⟨c,d,e,hl,hc,hd⟩:=(show relRs σ s.heap w k [r] ds from hel)
  have hd:d = []:=hd
  subst hd
  rw [List.append_nil] at e
  subst e
  exact ⟨rfl,hkp,ds,hl,hrow,hc⟩
 ·rename_i k r' d
  cases hr
  obtain ⟨ds,hrow,hkp,hel⟩:=RowOK.rd h.ok1 h.rows h.disj hk
  obtain ⟨c,e,e1,hl,hcl,hc,he⟩:=hel.cons_inv
  have he:e = []:=by
   have h1:=hrow.1
   rw [e1,List.length_append,hcl] at h1
   simp only [List.length_cons,List.length_nil] at h1
   exact List.eq_nil_of_length_eq_zero (by omega)
  subst he
  rw [List.append_nil] at e1
  subst e1
  exact ⟨rfl,hkp,ds,hcl,hrow,hc.toA⟩
 ·cases hr
theorem g_loadA (C:CfgOK P cfg) (h:Sim w0 Ok N σ s a w) {o:Oper} {x:Operand} {t:TypeId} {z:List D} {st:Bool} (ho:o.op = .load t x) (ht:cfg.ty t = some (z,st)) {v av:AV} (hx:opv s.regs x = some v)
  {cs:List AC} (hc:kJ (fun k => look k s.heap) v = some cs) (hv:aloadA z st cs = some av):yS P a w o (relAV σ s.heap w av):=by
 obtain ⟨zv,ti,d,t1,t2,t3,t4,t5,t6,t7,t8⟩:=C.ty t z st ht
 have hrel:=qR h hx
 unfold kJ at hc
 split at hc
 ·rename_i key j
  obtain ⟨ob,hk,hc⟩:=bind_some hc
  obtain ⟨r,hr,e0⟩:=map_some hc
  subst e0
  have hk:look key s.heap = some ob:=hk
  obtain ⟨hlen,hkp,us,hul,hrow,hcs⟩:=h.rowA hk hr
  obtain ⟨_,b,hg,e⟩:=hrel _ hk
  rw [hg] at hrow
  rw [Nat.zero_mul,Nat.zero_add] at e
  have hcd:=hcs.dropA (j:=j)
  have hcell:∀ q u,(us.drop j)[q]? = some u→w.cell? ⟨b,j + q,none⟩ = some u:=fun q u hu => hrow.cells _ _ (by rw [List.getElem?_drop] at hu;exact hu)
  unfold aloadA at hv
  cases st with
  | true =>
   rw [if_pos rfl] at hv
   split at hv
   ·rename_i hl
    cases hv
    have h2:=hcd.takeA (j:=z.length)
    obtain ⟨vs,hvs⟩:∃ vs,vs = (us.drop j).take z.length:=⟨_,rfl⟩
    rw [← hvs] at h2
    have hvl:vs.length = z.length:=by rw [h2.len,List.length_take];omega
    refine ⟨.agg vs.toArray,?_,vs,rfl,h2⟩
    unfold execOp
    rw [ho]
    have hi:(P.info? t).map (·.size) = some vs.length:=by rw [t1,hvl,← t3];rfl
    have hrange:w.rangeAt b j vs:=fun q v hq => hcell q v (by
     rw [hvs,List.getElem?_take] at hq
     split at hq
     ·exact hq
     ·cases hq)
    simp only [e,run_loadAt_mid w b j t vs d hrange t6 t7 hi,Sem.run_bind,Result.andThen_ok,Sem.run_pure]
   ·cases hv
  | false =>
   obtain ⟨d0,hd0,e0⟩:=map_some hv
   cases e0
   obtain ⟨y,hy1,hy2,hy3⟩:=hcd.nth hd0
   refine ⟨y,?_,hy2,hy3⟩
   unfold execOp
   rw [ho]
   have hagg:(isAgg t).run P w = .ok false w:=by
    unfold isAgg
    rw [Sem.run_bind,run_underlying t6 w]
    cases d <;> first|rfl|(cases t7)
   have hcell:w.cell? ⟨b,j,none⟩ = some y:=hcell 0 y hy1
   simp [e,Instr.loadAt,Instr.sureAddr,loadVar,hagg,run_load,hcell]
 ·cases hc
def devalA (cfg:Cfg) (ops:Array Oper) (o:Oper) (s:St):Option Tel :=
 match o.op with
 | .load t x => if dstOK cfg o = true∧qM ops s.regs o = some true then
   o.dst.bind fun d => (cfg.ty t).bind fun z => (opv s.regs x).bind fun v => (kJ (fun k => look k s.heap) v).bind fun cs => (aloadA z.1 z.2 cs).map fun av => ⟨⟨d,av,[]⟩,qP s.regs o.op.operands.toList⟩
  else Option.none
 | _ => Option.none
theorem acellsA_congr {h h':Nat→Option Obj} {v:AV} (hk:∀ k ∈ v.refs,h' k = h k):kJ h' v = kJ h v:=by
 cases v with
 | optr key i j =>
  have:=hk key (by simp [AV.refs])
  cases i with
  | zero => simp only [kJ,this]
  | succ i => rfl
 | _ => rfl
theorem jK.loadA (C:CfgOK P cfg) {i:Nat} {o:Oper} (hi:ops[i]? = some o) {t:Tel} (h:devalA cfg ops o s = some t):jK P cfg ops i s t:=by
 unfold devalA at h
 split at h
 ·rename_i ty x hop
  split at h
  ·rename_i hc
   obtain ⟨d,hd,h⟩:=bind_some h
   obtain ⟨z,hz,h⟩:=bind_some h
   obtain ⟨v,hv,h⟩:=bind_some h
   obtain ⟨cs,hcs,h⟩:=bind_some h
   obtain ⟨av,hav,rfl⟩:=map_some h
   refine ⟨o,hi,hd,fun s' h1 h2 h3 w0 Ok σ a w K Q hhd hS hK => ?_⟩
   have hw:qM ops s'.regs o = some true:=by rw [vV h1,hc.2]
   have hag:=qU0 (xs:=o.op.operands.toList) (fun x hx => hx) h1 h2
   have hxm:x ∈ o.op.operands.toList:=by rw [hop];simp [Op.operands]
   have hv':opv s'.regs x = some v:=by rw [hag.one hxm];exact hv
   have hcs':kJ (fun k => look k s'.heap) v = some cs:=by rw [acellsA_congr (h:=fun k => look k s.heap) (hag.refs hxm hv)];exact hcs
   obtain ⟨u,k1,k2⟩:=g_loadA C hS hop hz hv' hcs' hav
   unfold wpOp
   simp only [hi,yK hS hw,if_true]
   left
   have hdN:d < cfg.N:=by have:=hc.1;rw [dstOK,hd] at this;simpa using this
   unfold Oper.wp
   rw [k1]
   show K (a.put o.dst _) _
   rw [hd]
   exact hK σ _ _ (Sim.ins hS hdN k2)
  ·cases h
 ·cases h
def devalL (fz la:List Nat) (cfg:Cfg) (T:Tab P) (ops:Array Oper) (o:Oper) (s:St):Option Tel :=
 bif la.contains (o.dst.getD 0) then devalA cfg ops o s else xT fz cfg T ops o s
def drunL (fz la:List Nat) (cfg:Cfg) (T:Tab P) (ops:Array Oper):List Oper→St→List Tel × St × List Oper
 | [],s => ([],s,[])
 | o :: l,s => match devalL fz la cfg T ops o s with
  | some t => ((t :: (drunL fz la cfg T ops l (s.add t.e)).1),(drunL fz la cfg T ops l (s.add t.e)).2)
  | Option.none => ([],s,o :: l)
theorem drunL_spec {fz la:List Nat} (C:CfgOK P cfg):∀ {l:List Oper} {i:Nat} {s:St},(∀ j,l[j]? = ops[i + j]?)→Tr P cfg ops i s (drunL fz la cfg T ops l s).1 ∧
  (drunL fz la cfg T ops l s).2.1 = (drunL fz la cfg T ops l s).1.foldl (fun s t => s.add t.e) s∧(drunL fz la cfg T ops l s).2.2 = l.drop (drunL fz la cfg T ops l s).1.length
 | [],i,s,_ => ⟨trivial,rfl,rfl⟩
 | o :: l,i,s,hl => by
  have hi:ops[i]? = some o:=by have:=hl 0;simpa using this.symm
  simp only [drunL]
  cases hd:devalL fz la cfg T ops o s with
  | none => exact ⟨trivial,rfl,rfl⟩
  | some t =>
   obtain ⟨h1,h2,h3⟩:=drunL_spec (fz:=fz) (la:=la) C (l:=l) (i:=i + 1) (s:=s.add t.e) (fun j => by have:=hl (j + 1);simpa [Nat.add_assoc,Nat.add_comm 1 j] using this)
   refine ⟨⟨?_,h1⟩,by simpa using h2,by simpa using h3⟩
   unfold devalL at hd
   cases hb:la.contains (o.dst.getD 0) with
   | true => rw [hb] at hd;exact jK.loadA C hi hd
   | false =>
    rw [hb] at hd
    have hd:xT fz cfg T ops o s = some t:=hd
    unfold xT at hd
    cases hb:fz.contains (o.dst.getD 0) with
    | true => rw [hb] at hd;exact jK.lit C hi hd
    | false => rw [hb] at hd;exact jK.opT C hi hd
theorem qQ.wFl (C:CfgOK P cfg) (T:Tab P) (hm:P.follows .mixedOrders = true) (fz la:List Nat) {id:Nat} {tr:List Tel} {s1:St} {rest:List Oper} (hr:Work (dregF s (drunL fz la cfg T ops ops.toList s)) (some (tr,s1,rest))) (h1:ChkD ops tr)
  (h:qY P cfg M ops rest (outK P cfg M fs Q .normal) s1):qQ P cfg M (.region id ops true) fs Q s:=by
 have hr:dregF s (drunL fz la cfg T ops ops.toList s) = some (tr,s1,rest):=hr
 obtain ⟨⟨tr0,s10,rest0⟩,e⟩:∃ r,r = drunL fz la cfg T ops ops.toList s:=⟨_,rfl⟩
 rw [← e,kU] at hr
 split at hr
 ·rename_i hf
  cases hr
  obtain ⟨k1,k2,k3⟩:=drunL_spec (T:=T) (fz:=fz) (la:=la) C (ops:=ops) (l:=ops.toList) (i:=0) (s:=s) (fun j => by simp)
  rw [← e] at k1 k2 k3
  refine qK.draw hm k1 h1 hf ?_
  show qY P cfg M ops (ops.toList.drop tr.length) _ (tr.foldl (fun s t => s.add t.e) s)
  rw [← k2,← k3]
  exact h
 ·cases hr
theorem qY.loadA (C:CfgOK P cfg) {o:Oper} {l:List Oper} {Q:St→Prop} {d:Nat} {t:TypeId} {x:Operand} (ho:o.op = .load t x) (hg:o.guard = Option.none) (hd:o.dst = some d) (hdN:d < cfg.N) {z:List D} {st:Bool} (ht:cfg.ty t = some (z,st))
  {v av:AV} (hx:opv s.regs x = some v) {cs:List AC} (hc:kJ (fun k => look k s.heap) v = some cs) (hv:aloadA z st cs = some av) (h:qY P cfg M ops l Q ⟨insR d av s.regs,s.heap⟩):qY P cfg M ops (o :: l) Q s :=
 qY.gives o hg hd hdN (fun hS => g_loadA C hS ho ht hx hc hv) h
theorem qY.cut (C:CfgOK P cfg) (T:Tab P) (n:Nat) {l:List Oper} {Q:St→Prop} {s1:St} (ha:Work (aopsT cfg T ops (l.take n) s) (some s1)) (h:qY P cfg M ops (l.drop n) Q s1):qY P cfg M ops l Q s:=by
 have ha:aopsT cfg T ops (l.take n) s = some s1:=ha
 have cut:∀ (l m:List Oper) (s:St),aopsT cfg T ops l s = some s1→qY P cfg M ops m Q s1→qY P cfg M ops (l ++ m) Q s:=by
  intro l
  induction l with
  | nil => intro m s h1 h2;simp only [aopsT,Option.some.injEq] at h1;subst h1;exact h2
  | cons o l ih =>
   intro m s h1 h2
   simp only [aopsT] at h1
   obtain ⟨s2,h3,h4⟩:=bind_some h1
   exact qY.stepT C h3 (ih m s2 h4 h2)
 have:=cut _ _ s ha h
 rwa [List.take_append_drop] at this
theorem m_storeA (C:CfgOK P cfg) (h:Sim w0 Ok N σ s a w) {o:Oper} {x y:Operand} {t:TypeId} {z:List D} {st:Bool} (ho:o.op = .store t x y) (ht:cfg.ty t = some (z,st)) {key j:Nat} (hx:opv s.regs x = some (.optr key 0 j)) {vy:AV} (hy:opv s.regs y = some vy)
  {cs:List AC} (hc:xJ vy = some cs) (hcl:cs.length = z.length) {u:Obj} (hk:look key s.heap = some u) {r:List AC} (hr:rowA u = some r) (hj:j + z.length ≤ u.k)
  {K:Act→World→Prop} {Q:Exit→Act→World→Prop} (hK:∀ w',Sim w0 Ok N σ ⟨s.regs,insR key (.lit u.k [qL r j cs]) s.heap⟩ a w'→K (a.put o.dst undef) w'):o.wp P a w K Q:=by
 obtain ⟨zv,ti,td,t1,t2,t3,_,t5,t6,t7,t8⟩:=C.ty t z st ht
 have hcs:=wR hc (qR h hy)
 obtain ⟨_,g,hg,ex⟩:=qR h hx _ hk
 rw [Nat.zero_mul,Nat.zero_add] at ex
 have hRO:=h.rows key _ hk
 obtain ⟨hlen,hkp,us,hul,hR,hus⟩:=h.rowA hk hr
 rw [hg] at hR
 obtain ⟨vs,hvs⟩:∃ vs,vs = (a.eval y).cells.toList:=⟨_,rfl⟩
 rw [← hvs] at hcs
 have hvl:vs.length = z.length:=by rw [hcs.len,hcl]
 have hrl:r.length = u.k:=by rw [← hus.len,hul]
 have hoff:j + vs.length ≤ us.length:=by omega
 obtain ⟨hR',hgr⟩:=Row.storeCells vs j hR hoff
 obtain ⟨W,hW⟩:∃ W,W = w.setCells g j vs:=⟨_,rfl⟩
 rw [← hW] at hR' hgr
 have hsz:=hgr.size
 have hgf:g ∈ fp σ key u:=qI hg
 have hblk:∀ b,b < w.heap.size→b ≠ g→W.heap[b]? = w.heap[b]?:=fun b hb hne => hgr.block b hb (fun e => hne (by cases e;rfl))
 obtain ⟨ob,hob⟩:∃ ob,ob = Obj.lit u.k [qL r j cs]:=⟨_,rfl⟩
 rw [← hob] at hK
 have hobl:ob.len = u.len∧ob.k = u.k∧ob.deep = false:=by rw [hob];exact ⟨hlen.symm,rfl,rfl⟩
 have hlk:∀ q o',look q (insR key ob s.heap) = some o'→(q = key∧o' = ob) ∨ (q ≠ key∧look q s.heap = some o'):=by
  intro q o' hq
  rw [jJ] at hq
  split at hq
  ·rename_i e
   cases hq
   exact .inl ⟨e.symm,rfl⟩
  ·rename_i e
   exact .inr ⟨fun e' => e e'.symm,hq⟩
 have hZ:jQ σ σ s.heap (insR key ob s.heap) w W:=by
  intro c hc
  have hcg:c ≠ g:=fun e => hc.2.2 key _ hk (by rw [hg,e])
  refine ⟨⟨Nat.lt_of_lt_of_le hc.1 hsz,hc.2.1,fun q o' hq e => ?_⟩,hblk c hc.1 hcg⟩
  rcases hlk q o' hq with ⟨e1,_⟩|⟨_,hq⟩
  ·rw [e1] at e
   exact hc.2.2 key _ hk e
  ·exact hc.2.2 q o' hq e
 have hst:∀ q,jX σ σ s.heap (insR key ob s.heap) q:=by
  intro q o' hq
  rcases hlk q o' hq with ⟨rfl,rfl⟩|⟨_,hq⟩
  ·exact ⟨_,hk,hobl.2.1.symm,hobl.1.symm,rfl,rfl⟩
  ·exact ⟨o',hq,rfl,rfl,rfl,rfl⟩
 have hfp1:∀ c ∈ fp σ key ob,c ∈ fp σ key u:=by
  intro c hc
  unfold fp at hc ⊢
  rw [hobl.2.2] at hc
  rcases List.mem_append.1 hc with hc|hc
  ·exact List.mem_append_left _ hc
  ·cases hc
 have hS:Sim w0 Ok N σ ⟨s.regs,insR key ob s.heap⟩ a W:=by
  refine h.step rfl (h.below.grown hgr (fun g' hg' => by cases hg';exact hRO.fresh g hgf)) hZ (h.grownY hgr (fun g' hg' => by cases hg';exact hRO.fresh g hgf)) (fun r av hr => ⟨av,hr,.inl ⟨rfl,fun q _ => hst q⟩⟩) (fun q o' hq => ?_) ?_
  ·rcases hlk q o' hq with ⟨rfl,rfl⟩|⟨hne,hq⟩
   ·refine ⟨⟨qL us j vs,?_,by rw [hobl.2.1];exact hkp,?_⟩,fun c hc => hRO.fresh c (hfp1 c hc),?_⟩
    ·rw [hobl.1,hobl.2.1,hg];exact hR'
    ·have e1:relCs σ (insR q o' s.heap) W (qL r j cs) (qL us j vs):=by
      have k1:=hus.step hZ (fun k _ => hst k)
      have k2:=hcs.step hZ (fun k _ => hst k)
      unfold qL
      rw [hvl,← hcl]
      exact ((k1.takeA).appA k2).appA k1.dropA
     show elOK σ (insR q o' s.heap) W q (qL us j vs) o'
     rw [hob] at e1 ⊢
     refine ⟨qL us j vs,[],by simp,?_,e1,rfl⟩
     unfold qL
     rw [List.length_append,List.length_append,List.length_take,List.length_drop];omega
    ·unfold fp
     rw [hobl.2.2,hg]
     simp
   ·refine RowOK.keep h.ok1 h.rows h.disj hq hZ (fun q' _ => hst q') rfl rfl rfl (fun c hc => hblk c (yA h hq c (qI hc)) (fun e => ?_))
    subst e
    exact h.disj q o' key _ hq hk hne c (qI hc) hgf
  ·intro p o1 q u1 hp hq hpq c hc hc'
   rcases hlk p o1 hp with ⟨rfl,eo⟩|⟨hne,hp'⟩
   ·rcases hlk q u1 hq with ⟨e,_⟩|⟨hne,hq⟩
    ·exact hpq e.symm
    ·rw [eo] at hc
     exact h.disj p _ q u1 hk hq hpq c (hfp1 c hc) hc'
   ·rcases hlk q u1 hq with ⟨rfl,eu⟩|⟨hne',hq'⟩
    ·rw [eu] at hc'
     exact h.disj p o1 q _ hp' hk hpq c hc (hfp1 c hc')
    ·exact h.disj p o1 q u1 hp' hq' hpq c hc hc'
 have hsize:(a.eval y).cells.size = ti.size:=by
  have e:(a.eval y).cells.size = vs.length:=by rw [hvs,Array.length_toList]
  rw [e,hvl,← t3]
 have hrun:(storeVar t ⟨g,j,none⟩ (a.eval y)).run P w = .ok () W:=by
  have hone:∀ v ∈ vs,v.oneCell' = true:=by
   intro v hv
   obtain ⟨q,hq,e⟩:=List.getElem_of_mem hv
   have hq':q < cs.length:=by rw [← hcs.len];exact hq
   obtain ⟨v',k1,k2,_⟩:=hcs.nth (List.getElem?_eq_getElem hq')
   rw [List.getElem?_eq_getElem hq,Option.some.injEq] at k1
   rw [← e,k1];exact k2
  have:=run_storeCells_cells (P:=P) g j vs 0 w (fun q hq => by
   obtain ⟨u,hu⟩:∃ u,us[j + q]? = some u:=⟨us[j + q]'(by omega),List.getElem?_eq_getElem _⟩
   rw [Nat.add_zero,hR.cells _ _ hu];rfl) (fun q hq => by rw [Nat.add_zero];exact hR.frozen _) hone
  rw [Nat.add_zero,← hW] at this
  simp [storeVar,sizeOf,typeInfo,t1,hsize,← hvs,this]
 have ex':a.eval x = .pointer (some ⟨g,j,none⟩):=ex
 unfold Oper.wp execOp
 simp only [ho,ex',Instr.storeAt,Instr.sureAddr,Sem.run_bind,Sem.run_pure,Result.andThen_ok,hrun]
 exact hK W hS
theorem qY.storeA (C:CfgOK P cfg) {o:Oper} {l:List Oper} {Q:St→Prop} {t:TypeId} {x y:Operand} (ho:o.op = .store t x y) (hg:o.guard = Option.none) (hd:o.dst = Option.none) {z:List D} {st:Bool} (ht:cfg.ty t = some (z,st)) {key j:Nat} (hx:opv s.regs x = some (.optr key 0 j))
  {vy:AV} (hy:opv s.regs y = some vy) {cs:List AC} (hc:xJ vy = some cs) (hcl:cs.length = z.length) {u:Obj} (hk:look key s.heap = some u) {r:List AC} (hr:Go.Proofs.YtedgfkpfhonlpaaGreat.rowA u = some r) (hj:j + z.length ≤ u.k)
  (h:qY P cfg M ops l Q ⟨s.regs,insR key (.lit u.k [qL r j cs]) s.heap⟩):qY P cfg M ops (o :: l) Q s:=by
 intro w0 Ok σ a w Q' hM hS hQ
 refine wpList_step (fun K hK => ?_)
 have hw:qM ops s.regs o = some true:=by unfold qM;rw [hg]
 rw [yK hS hw]
 simp only [if_true]
 refine m_storeA C hS ho ht hx hy hc hcl hk hr hj (fun w' hS' => ?_)
 rw [hd]
 exact hK _ _ (h w0 Ok σ _ _ Q' hM hS' hQ)
theorem relCs.toD:∀ {x:List D} {us:List Value},relCs σ H w (x.map .val) us→rdCs (Zn σ H w) w us x
 | [],us,h => by rw [show us = [] from h];exact rdCs.nil
 | y :: x,_,⟨u,us',e,_,h2,h⟩ => by rw [e];exact rdCs.cons h2 (relCs.toD h)
theorem relCs.killA {k:Nat} {x:List AC} {us:List Value} (h:relCs σ H w x us):relCs σ H w (x.map (AC.kill k)) us:=relCs.kill h
theorem Sim.killL (h:Sim w0 Ok N σ s a w) {key k K:Nat} {r:List AC} (hk:look key s.heap = some (.lit k [r])):Sim w0 Ok N σ ⟨s.regs,insR key (.lit k [r.map (AC.kill K)]) s.heap⟩ a w:=by
 refine h.setObj hk rfl rfl rfl (fun H' hZ hst ds hrow hel => ?_)
 obtain ⟨c,d,e,hl,hc,hd⟩:=(show relRs σ s.heap w k [r] ds from hel)
 exact ⟨c,d,e,hl,(hc.step (fun b hb => ⟨hZ b hb,rfl⟩) (fun q _ => hst q)).killA,hd⟩
theorem qY.killL {l:List Oper} {Q:St→Prop} (key K:Nat) {k:Nat} {r:List AC} (hk:look key s.heap = some (.lit k [r])) (h:qY P cfg M ops l Q ⟨s.regs,insR key (.lit k [r.map (AC.kill K)]) s.heap⟩):qY P cfg M ops l Q s:=by
 intro w0 Ok σ a w Q' hM hS hQ
 exact h w0 Ok σ a w Q' hM (hS.killL hk) hQ
theorem Sim.litRow (h:Sim w0 Ok N σ s a w) {key k:Nat} {r:List D} (hk:look key s.heap = some (.lit k [r.map .val])):Sim w0 Ok N σ ⟨s.regs,insR key (.row k [r] false) s.heap⟩ a w:=by
 obtain ⟨_,hkp,us,hul,_,hus⟩:=h.rowA hk (r:=r.map .val) rfl
 have hrl:r.length = k:=by have:=hus.len;rw [List.length_map] at this;rw [← this];exact hul
 refine h.setObj hk rfl rfl rfl (fun H' hZ hst ds hrow hel => ?_)
 obtain ⟨c,d,e,hl,hc,hd⟩:=(show relRs σ s.heap w k [r.map .val] ds from hel)
 have hd:d = []:=hd
 subst hd
 rw [List.append_nil] at e
 subst e
 exact rdR.single hkp hrl (hc.toD.mono (fun b hb _ => hZ b hb))
theorem qQ.litRow {c:Code} (key:Nat) {k:Nat} (r:List D) (hk:look key s.heap = some (.lit k [r.map .val])) (h:qQ P cfg M c fs Q ⟨s.regs,insR key (.row k [r] false) s.heap⟩):qQ P cfg M c fs Q s:=by
 intro w0 Ok σ a w Q' hM hS hQ
 exact h w0 Ok σ a w Q' hM (hS.litRow hk) hQ
theorem Sim.renR (h:Sim w0 Ok N σ s a w) {r key d n:Nat} (hne:key ≠ d) (hr:look r s.regs = some (.c (.own key n))) {o:Obj} (ho:look key s.heap = some o) (hd:∀ q u,q ≠ d→look q s.heap = some u→d ∉ u.refs) :
  ∃ σ',Sim w0 Ok N σ' ⟨insR r (.c (.own d n)) (killR key (killR d s.regs)),insR d o (drop key (drop d s.heap))⟩ a w:=by
 obtain ⟨σ',e1,e2,h1⟩:=h.rename hne ho hd
 refine ⟨σ',h1.below,h1.ok1,h1.ok2,h1.defers,h1.size,fun q av hq => ?_,h1.rows,h1.disj,h1.inv,h1.hid⟩
 rw [jJ] at hq
 split at hq
 ·rename_i e
  cases hq
  subst e
  obtain ⟨k1,k2⟩:=h.regs _ _ hr
  refine ⟨k1,fun o' ho' => ?_⟩
  have ho':look d (insR d o (drop key (drop d s.heap))) = some o':=ho'
  rw [jJ,if_pos rfl] at ho'
  cases ho'
  obtain ⟨k3,k4⟩:=k2 o ho
  exact ⟨k3,by rw [e1,e2];exact k4⟩
 ·exact h1.regs q av hq
theorem qY.renR {l:List Oper} {Q:St→Prop} (r:Nat) {key n:Nat} (d:Nat) (hne:key ≠ d) (hr:look r s.regs = some (.c (.own key n))) {o:Obj} (ho:look key s.heap = some o) (hd:(s.heap.all fun p => p.1 == d || !p.2.refs.contains d) = true)
  (h:qY P cfg M ops l Q ⟨insR r (.c (.own d n)) (killR key (killR d s.regs)),insR d o (drop key (drop d s.heap))⟩):qY P cfg M ops l Q s:=by
 intro w0 Ok σ a w Q' hM hS hQ
 obtain ⟨σ',h1⟩:=hS.renR hne hr ho (fun q u hq hu hm => by
  have:=List.all_eq_true.1 hd _ (yV hu)
  simp only [Bool.or_eq_true,beq_iff_eq,Bool.not_eq_true',List.contains_eq_mem,decide_eq_false_iff_not] at this
  rcases this with e|e
  ·exact hq e
  ·exact e hm)
 exact h w0 Ok σ' a w Q' hM h1 hQ
theorem relCs.nilOwn {σ':Asg} {H':List (Nat × Obj)} {K:Nat} (hZ:jQ σ σ' H H' w w) (hst:∀ q,q ≠ K→jX σ σ' H H' q) (hK:∀ o,look K H' = some o→0 = o.len∧slv (σ'.g K) 0 (σ'.cap K) = .slice none 0 0) {post:List AC} (hp:K ∉ post.flatMap AC.refs) :
  ∀ {pre:List AC} {us:List Value},K ∉ pre.flatMap AC.refs→relCs σ H w (pre ++ .nil :: post) us→relCs σ' H' w (pre ++ .own K 0 :: post) us
 | [],_,_,⟨u,us',e,h1,h2,h⟩ => ⟨u,us',e,h1,fun o ho => ⟨(hK o ho).1,by rw [(hK o ho).2];exact h2⟩,h.step hZ (fun q hq => hst q (fun e => hp (e ▸ hq)))⟩
 | x :: pre,_,hn,⟨u,us',e,h1,h2,h⟩ => by
  rw [List.flatMap_cons,List.mem_append,not_or] at hn
  exact ⟨u,us',e,h1,h2.step hZ (fun q hq => hst q (fun e => hn.1 (e ▸ hq))),relCs.nilOwn hZ hst hK hp hn.2 h⟩
theorem Sim.nilOwn (h:Sim w0 Ok N σ s a w) {r k K:Nat} {pre post:List AC} (hr:look r s.regs = some (.agg (pre ++ .nil :: post))) (hk:0 < k) (hF:Free s K) :
  ∃ σ',Sim w0 Ok N σ' ⟨insR r (.agg (pre ++ .own K 0 :: post)) s.regs,insR K (.row k [] false) s.heap⟩ a w:=by
 let σ':Asg:=⟨fun q => if q = K then none else σ.g q,fun q => if q = K then 0 else σ.cap q,σ.F,σ.ok⟩
 have a1:σ'.g K = none:=if_pos rfl
 have a2:σ'.cap K = 0:=if_pos rfl
 have a4:∀ q,q ≠ K→σ'.g q = σ.g q∧σ'.cap q = σ.cap q:=fun q hq => ⟨if_neg hq,if_neg hq⟩
 have hfp:∀ q u,q ≠ K→fp σ' q u = fp σ q u:=fun q u hq => by unfold fp;rw [(a4 q hq).1]
 have hfpK:fp σ' K (.row k [] false) = []:=by unfold fp;rw [a1];rfl
 have hlk:∀ q o',look q (insR K (.row k [] false) s.heap) = some o'→(q = K∧o' = .row k [] false) ∨ (q ≠ K∧look q s.heap = some o'):=by
  intro q o' hq
  rw [jJ] at hq
  split at hq
  ·rename_i e
   cases hq
   exact .inl ⟨e.symm,rfl⟩
  ·rename_i e
   exact .inr ⟨fun e' => e e'.symm,hq⟩
 have hZ:jQ σ σ' s.heap (insR K (.row k [] false) s.heap) w w:=by
  intro b hb
  refine ⟨⟨hb.1,hb.2.1,fun q o' hq e => ?_⟩,rfl⟩
  rcases hlk q o' hq with ⟨e1,_⟩|⟨e1,hq⟩
  ·rw [e1,a1] at e;cases e
  ·rw [(a4 q e1).1] at e
   exact hb.2.2 q o' hq e
 have hst:∀ q,q ≠ K→jX σ σ' s.heap (insR K (.row k [] false) s.heap) q:=by
  intro q hq o' ho'
  rcases hlk q o' ho' with ⟨e1,_⟩|⟨_,ho'⟩
  ·exact absurd e1 hq
  ·exact ⟨o',ho',rfl,rfl,(a4 q hq).1,(a4 q hq).2⟩
 have href:K ∉ (pre ++ AC.nil :: post).flatMap AC.refs:=hF.2.1 r _ hr
 rw [List.flatMap_append,List.flatMap_cons,List.mem_append,List.mem_append,not_or,not_or] at href
 refine ⟨σ',h.step rfl h.below hZ (fun _ _ => rfl) (fun q av hq => ?_) (fun q o' hq => ?_) (fun p o1 q u1 hp hq hpq c hc hc' => ?_)⟩
 ·have hq:look q (insR r (.agg (pre ++ .own K 0 :: post)) s.regs) = some av:=hq
  rw [jJ] at hq
  by_cases e:r = q
  ·rw [if_pos e] at hq
   cases hq
   subst e
   refine ⟨_,hr,.inr (fun hrel => ?_)⟩
   obtain ⟨us,e1,h1⟩:=hrel
   exact ⟨us,e1,relCs.nilOwn hZ hst (fun o ho => by
    rw [jJ,if_pos rfl] at ho
    cases ho
    exact ⟨rfl,by rw [a1];rfl⟩) href.2.2 href.1 h1⟩
  ·rw [if_neg e] at hq
   exact ⟨av,hq,.inl ⟨rfl,fun k' hk' => hst k' (fun e => hF.2.1 q av hq (e ▸ hk'))⟩⟩
 ·rcases hlk q o' hq with ⟨rfl,rfl⟩|⟨hne,hq⟩
  ·refine ⟨⟨[],?_,hk,rdR.nil hk⟩,fun c hc => ?_,?_⟩
   ·rw [a1]
    exact ⟨by simp [Obj.len],.inl ⟨rfl,rfl,rfl⟩⟩
   ·rw [hfpK] at hc;cases hc
   ·rw [hfpK];exact List.nodup_nil
  ·exact RowOK.keep h.ok1 h.rows h.disj hq hZ (fun q' hq' => hst q' (fun e => hF.2.2 q o' hq (e ▸ hq'))) (a4 q hne).1 (a4 q hne).2 rfl (fun c _ => rfl)
 ·rcases hlk p o1 hp with ⟨rfl,rfl⟩|⟨hne,hp'⟩
  ·rw [hfpK] at hc;cases hc
  ·rcases hlk q u1 hq with ⟨rfl,rfl⟩|⟨hne',hq'⟩
   ·rw [hfpK] at hc';cases hc'
   ·rw [hfp p o1 hne] at hc
    rw [hfp q u1 hne'] at hc'
    exact h.disj p o1 q u1 hp' hq' hpq c hc hc'
theorem qY.nilOwn {l:List Oper} {Q:St→Prop} (r K:Nat) {k:Nat} {pre post:List AC} (hr:look r s.regs = some (.agg (pre ++ .nil :: post))) (hk:0 < k) (hF:fresh s K = true)
  (h:qY P cfg M ops l Q ⟨insR r (.agg (pre ++ .own K 0 :: post)) s.regs,insR K (.row k [] false) s.heap⟩):qY P cfg M ops l Q s:=by
 intro w0 Ok σ a w Q' hM hS hQ
 obtain ⟨σ',h1⟩:=hS.nilOwn hr hk (xE hF)
 exact h w0 Ok σ' a w Q' hM h1 hQ
structure AFnS (P:Program) (f:FuncId) (ds:List (List D)) (cs:List D):Prop where
 call:∀ args w,(callFunc f args).run P w = .ok (.enter f args) w
 fn:∀ (A:Nat→Prop) w vs,(∀ b,A b→b < w.heap.size)→qO A w ds vs→Calls P f vs.toArray w (fun e w' => ∃ us,e = .returned (.agg us.toArray)∧Below w.heap.size w w'∧rdCs (fun b => A b ∨ w.heap.size ≤ b) w' us cs)
def EndsS (cfg:Cfg) (fn:Func) (cs:List D) (e:Exit) (s:St):Prop :=
 (e = .normal ∨ e = .ret)∧∃ t ty key o z,fn.results = #[.cell t ty]∧look t s.regs = some (.optr key 0 0)∧look key s.heap = some o∧rowA o = some (cs.map .val)∧cfg.ty ty = some (z,true)∧z.length = cs.length
theorem AFnS.of_runs (C:CfgOK P cfg) {f:FuncId} {fn:Func} {c:Code} (hf:P.funcs[f]? = some fn) (hb:fn.body = some c) (hname:(fn.name == "runtime.NumGoroutine") = false) (hN:fn.ntmps = cfg.N) {ds:List (List D)} (hd:ds.length ≤ fn.ntmps) {cs:List D}
  (h:∀ M,qK P cfg M c (EndsS cfg fn cs) ⟨qU 0 ds,[]⟩) (hnon:cfg.hd = HidC.non:=by rfl):AFnS P f ds cs:=by
 refine ⟨enters_of hf hname hb,fun A w vs hA hv => ?_⟩
 have hlen:=hv.len
 refine calls_of_wp hf hb ?_
 have hS:=start_sim (A:=A) (N:=cfg.N) (n:=fn.ntmps - vs.length) hv (by omega)
 refine h _ ⟨w,fun _ => False⟩ A _ _ w _ ⟨rfl,hnon.symm⟩ (by simpa using hS) (fun e s' hE σ' a' w' hS' => ?_)
 obtain ⟨he,t,ty,key,o,z,hres,ht,hk,hr,hty,hzl⟩:=hE
 obtain ⟨zv,ti,d,t1,t2,t3,t4,t5,t6,t7,t8⟩:=C.ty ty z true hty
 obtain ⟨hlen1,hkp,us,hul,hrow,hus⟩:=hS'.rowA hk hr
 obtain ⟨_,b,hg,ep⟩:=hS'.regs t _ ht o hk
 rw [Nat.zero_mul,Nat.zero_add] at ep
 rw [hg] at hrow
 have hrd:=hus.toD
 have hcl:us.length = cs.length:=hrd.len
 have hrange:w'.rangeAt b 0 us:=fun q v hq => by rw [Nat.zero_add];exact hrow.cells q v hq
 have hi:(P.info? ty).map (·.size) = some us.length:=by rw [t1,hcl,← hzl,← t3];rfl
 have hload:(loadVar ty ⟨b,0,none⟩).run P w' = .ok (.agg us.toArray) w':=run_loadVar_mid w' b 0 ty us d hrange t6 t7 hi
 have ep':a'.tmps.getD t undef = .pointer (some ⟨b,0,none⟩):=ep
 have hrun:(results fn a'.tmps).run P w' = .ok (.agg us.toArray) w':=by
  unfold results
  rw [hres,Array.mapM_eq_mapM_toList]
  rw [Array.getD_eq_getD_getElem?] at ep'
  simp [ep',asAddr,hload]
 have hm:∀ b,Zn σ' s'.heap w' b→b < w'.heap.size→A b ∨ w.heap.size ≤ b:=fun b hb _ => by
  rcases hS'.ok2 b hb.2.1 with h1|h1
  ·exact .inl h1
  ·rcases h1 with h1|h1
   ·exact .inr h1
   ·exact h1.elim
 have hfin:a'.defers = []∧∃ v,(results fn a'.tmps).run P w' = .ok v w'∧∃ us,Ending.returned v = .returned (.agg us.toArray)∧Below w.heap.size w w'∧rdCs (fun b => A b ∨ w.heap.size ≤ b) w' us cs:=⟨hS'.defers,_,hrun,us,rfl,hS'.below.below,hrd.mono hm⟩
 rcases he with rfl|rfl <;> exact hfin
theorem qY.callS (C:CfgOK P cfg) {o:Oper} {l:List Oper} {Q:St→Prop} (hg:o.guard = Option.none) {d:Nat} (hd:o.dst = some d) (hdN:d < cfg.N) {f:Operand} {args:Array Operand} {ts:Array TypeId} (ho:o.op = .call ⟨.value f,args,ts⟩) {g:FuncId} (hf:((opv s.regs f).bind avD).bind fnId = some g)
  {ds:List (List D)} (hds:aargs cfg (fun k => look k s.heap) s.regs args.toList ts.toList = some ds) (hs:qP s.regs args.toList = []) {cs:List D} (hfn:AFnS P g ds cs) (h:qY P cfg M ops l Q ⟨insR d (.agg (cs.map .val)) s.regs,s.heap⟩):qY P cfg M ops (o :: l) Q s:=by
 intro w0 Ok σ a w Q' hM hS hQ
 refine wpList_step (fun K hK => ?_)
 have hw:qM ops s.regs o = some true:=by unfold qM;rw [hg]
 rw [yK hS hw]
 simp only [if_true]
 obtain ⟨_,l2⟩:=xH C hS hds
 have hfv:a.eval f = .func (.func g) #[] #[]:=vL hS hf
 have hrun:(execOp a.eval o).run P w = .ok (.enter g (args.map a.eval)) w:=by
  unfold execOp
  rw [ho]
  simp [resolve,Deferred.ofValue,hfv,invoke,hfn.call]
 have hcall:=hfn.fn (Zn σ s.heap w) w (args.toList.map a.eval) (fun _ h => h.1) (l2 hs)
 unfold Oper.wp
 rw [hrun,Oper.upon_enter]
 have e:(args.toList.map a.eval).toArray = args.map a.eval:=by rw [← Array.toList_map,Array.toArray_toList]
 rw [← e]
 refine hcall.mono ?_
 rintro e w' ⟨us,rfl,hB,hrd⟩
 have hS1:=hS.world hB
 have hrd':rdCs (Zn σ s.heap w') w' us cs:=hrd.mono (fun b hb hlt => jQ.grown hB hS (fun _ h => h) b hb hlt)
 show K (a.put o.dst _) _
 rw [hd]
 exact hK _ _ (h w0 Ok σ _ _ Q' hM (Sim.ins hS1 hdN ⟨us,rfl,hrd'.toA⟩) hQ)
end
end
section
theorem qE (n:Nat) {H:HidC}:CfgOK Tryz.prog (cfg n H):=cfg_okH n H
theorem AFnH.of_runs1 {P:Program} {cfg:Cfg} (C:CfgOK P cfg) {f:FuncId} {fn:Func} {c:Code} (hf:P.funcs[f]? = some fn) (hb:fn.body = some c) (hname:(fn.name == "runtime.NumGoroutine") = false) (hN:fn.ntmps = cfg.N) {ds:List (List D)} (hd:ds.length ≤ fn.ntmps) {y:D}
  (h:∀ M,qK P cfg M c (Ends cfg M fn (· = [.val y])) ⟨qU 0 ds,[]⟩):AFnH cfg.hd P f ds [y]:=AFnH.of_runs C hf hb hname hN hd (ys:=[y]) h
def KA (k:Value) (d:D):Prop:=∃ t,qW t∧canon t = t∧t.length ≤ 8∧k = bstr (txtF 8 t)∧d = .sl 2 ((ant1 t).map ePt)
theorem KA.of {t:List Int} {d:D} (h:qW t) (hl:t.length ≤ 8) (hk:KA (bstr (txtF 8 t)) d):d = .sl 2 ((ant1 t).map ePt):=by
 obtain ⟨u,hu,_,hul,e,rfl⟩:=hk
 have e1:txtF 8 t = txtF 8 u:=by
  unfold bstr at e
  injection e with e
  injection e with e
  have:=congrArg Array.toList e
  simpa using this
 have a:=rf_show 7 [t] (fun x hx => by obtain rfl:=List.mem_singleton.1 hx;exact ⟨h,hl⟩) []
 have b:=rf_show 7 [u] (fun x hx => by obtain rfl:=List.mem_singleton.1 hx;exact ⟨hu,hul⟩) []
 simp only [List.flatMap_cons,List.flatMap_nil,List.append_nil,List.nil_append] at a b
 rw [e1,b] at a
 injection a with a
 injection a with a _
 injection a with a _
 rw [a]
@[reducible] def hidA (r:Nat):HidC:=hidM KA (fun _ => False) r
def OfT (n:Nat):Prop:=∀ r t,qW t→canon t = t→t.length ≤ n→AFnH (hidA r) Tryz.prog 140 [[.raw (.map (some r))],eL t] [.sl 2 ((ant1 t).map ePt)]
theorem a_ofForest (n:Nat) (hn:n ≤ 8) (ih:OfT n) (r:Nat) (f:List (List Int)) (hf:∀ t ∈ f,qW t∧canon t = t∧t.length ≤ n) (hs:qX f ≤ 8) :
  AFnH (hidA r) Tryz.prog 76 [[.raw (.map (some r))],[.sl 1 (f.map eL)]] [.sl 2 ((ant f).map ePt)]:=by
 obtain ⟨H,hH⟩:∃ H,H = hidA r:=⟨_,rfl⟩
 have hfl:f.length ≤ 8:=by
  refine Nat.le_trans ?_ hs
  clear hs
  induction f with
  | nil => exact Nat.le_refl _
  | cons t f ih' =>
   have a1:=(hf t (by simp)).1.pos
   have a2:=ih' fun x hx => hf x (by simp [hx])
   have a3:qX (t :: f) = t.length + qX f:=by simp [qX]
   rw [List.length_cons];omega
 have htk:∀ i,qX (f.take i) ≤ 8:=fun i => by
  have:qX (f.take i) + qX (f.drop i) = qX f:=by rw [← wW,List.take_append_drop]
  omega
 have hgd:∀ i,GdA (qX (f.take i)) (antF ant1 (f.take i)):=fun i => by
  have:=GdA.fold (g:=ant1) (f:=f.take i) (out:=[(1,[])]) (m:=0) (fun x hx => vR x.length (hf x (List.mem_of_mem_take hx)).1 (Nat.le_refl _)) gd_one
  rw [Nat.zero_add] at this
  exact this
 have hln:∀ i,(antF ant1 (f.take i)).length ≤ 300:=fun i => by
  have h1:=vO (g:=ant1) (f.take i) [(1,[])] (fun x hx => wJ x.length x (hf x (List.mem_of_mem_take hx)).1 (hf x (List.mem_of_mem_take hx)).2.1 (Nat.le_refl _))
  have h2:=eF_le (f.take i)
  have h3:2 ^ eF (f.take i) ≤ 2 ^ 8:=Nat.pow_le_pow_right (by decide) (by have:=htk i;omega)
  have h4:([(1,[])]:Elt).length = 1:=rfl
  rw [h4,Nat.one_mul] at h1
  exact Nat.le_trans h1 (by omega)
 rw [← hH]
 refine AFnH.of_runs1 (cfg_okH 23 H) Tryz.func76 rfl rfl rfl gz ?_
 have hres:Tryz.f76.results.toList = [.tmp 4]:=rfl
 have hrts:Tryz.f76.resultTypes.toList = [50]:=rfl
 simp only [qU,qT,eL,eI,eLL,eB,Nat.zero_add,Nat.reduceAdd]
 intro M
 refine qQ.of ?_
 refine gw102 ?_
 refine qQ.frz 5 ?_
 refine qQ.fits (s0:=⟨[(0,.c (.val (.raw (.map (some r))))),(5,.c (.val (.sl 2 [[.int 1,.sl 1 []]]))),(10,.c (.val (.sl 1 (f.map eL)))),(11,.c (.val (.int f.length))),(12,.c (.val (.int 0)))],[]⟩) ?_ ?_
 ·exact gw103
 refine qQ.loop (β:=Nat) (γ:=Unit) (fun i => ⟨[(0,.c (.val (.raw (.map (some r))))),(5,.c (.val (.sl 2 ((antF ant1 (f.take i)).map ePt)))),(10,.c (.val (.sl 1 (f.map eL)))),(11,.c (.val (.int f.length))),(12,.c (.val (.int i)))],[]⟩) (fun i => i ≤ f.length) (fun i => f.length - i)
  (fun _ => ⟨[(5,.c (.val (.sl 2 ((ant f).map ePt))))],[]⟩) (fun _ => True) 0 (Nat.zero_le _) ?_ ?_ ?_
 ·exact gw104 (show antF ant1 [] = [(1,[])] from rfl)
 ·intro i hi
  have hi:i ≤ f.length:=hi
  have hw:=qH (n:=i) (by omega)
  by_cases h:i < f.length
  ·have i1:((i:Int) < (f.length:Int)) = True:=eq_true (by omega)
   have i2:((0:Int) ≤ (i:Int)) = True:=eq_true (by omega)
   obtain ⟨t,ht⟩:∃ t,t = f[i]:=⟨_,rfl⟩
   obtain ⟨t1,t2,t3⟩:=hf f[i] (List.getElem_mem _)
   rw [← ht] at t1 t2 t3
   have hg:(f.map eL)[i]? = some [.sl 1 (t.map eI)]:=by rw [qD h,ht];rfl
   have hle:(f.map eL).length = f.length:=List.length_map _
   have hst:antF ant1 (f.take (i + 1)) = sumS cmpF (prodL (antF ant1 (f.take i)) (ant1 t)):=by
    rw [ht];unfold antF
    rw [List.take_succ_eq_append_getElem h,List.foldl_append];rfl
   have hof:=ih r t t1 t2 t3
   rw [← hH] at hof
   have hl1:(ant1 t).length ≤ 300:=by
    have h1:=wJ t.length t t1 t2 (Nat.le_refl _)
    have h2:2 ^ (t.length - 1) ≤ 2 ^ 8:=Nat.pow_le_pow_right (by decide) (by omega)
    exact Nat.le_trans h1 (by omega)
   have hpr:=a_products (antF ant1 (f.take i)) (ant1 t) ((hgd i).sz (htk i)) ((vR t.length t1 (Nat.le_refl _)).sz (by omega)) (hln i) hl1
   rw [← hst] at hpr
   have hpr:=AFn.valT hpr
   refine gw105 (Y5 i1 i2 hg hw hle) ?_
   ((refine gw74 (kk 13) Y0 ?_);(with_reducible refine qQ.regCut (qE 23) Tab.none 3 (s1:=?_) ?_ ?_);rotate_left 1;(focus ((with_reducible refine QW ?_);simp only [Zg,Zi,seval];with_reducible rfl));simp only [List.toList_toArray,List.drop_succ_cons,List.drop_zero])
   refine qY.callH (qE 23) (d:=19) (g:=140) (ds:=[[.raw (.map (some r))],eL t]) (by rfl) hof ?_
   (refine qY.opsT (qE 23) (T:=Tab.none.at' 83 hpr) (s':=?_) ?_ ?_;rotate_left 1;focus (simp only [Zg,Zi,seval];with_reducible rfl))
   refine gw106 hw ?_
   refine qZ.on (i + 1) ⟨h,by omega⟩ ?_
   exact gw6 Y0
  ·have i1:((i:Int) < (f.length:Int)) = False:=eq_false (by omega)
   obtain rfl:i = f.length:=by omega
   rw [List.take_length]
   refine gw106 i1 ?_
   refine qZ.out () trivial ?_
   exact gw6 Y0
 ·rintro _ _
  refine gw106 Y0 ?_
  exact gw8
theorem gd_len {L:Elt} {m:Nat} (h:GdA m L):∀ q ∈ L,q.2.length ≤ qX q.2:=fun q hq => by
 obtain ⟨_,h2,_⟩:=h q hq
 generalize q.2 = f at h2
 induction f with
 | nil => exact Nat.le_refl _
 | cons t f ih =>
  have a1:=h2 t (by simp)
  have a2:=ih fun x hx => h2 x (by simp [hx])
  have a3:qX (t :: f) = t.length + qX f:=by simp [qX]
  rw [List.length_cons]
  omega
theorem cutE_ant1 {t:List Int} (h:qW t) {m:Nat} (hm:t.length = m + 1):∀ c ∈ cutsL t,cutE (antT m) c = cutE ant1 c:=fun c hc => by
 obtain ⟨z,hz,rfl,hg,_,h1⟩:=wP h hc
 unfold cutE
 rcases h1 with ⟨_,h1⟩|⟨h1,h2⟩
 ·rw [if_pos h1,if_pos h1]
 ·rw [if_neg h1,if_neg h1,antF_congr fun x hx => ?_]
  have hx':x ∈ z.1.1:=hx
  have a1:=jN hx'
  have a2:=hg.2
  have a3:qX z.1.2 = (cutS z).1.2.length:=by rw [h2];simp [qX]
  have a4:=hg.1 (cutS z).1.2 (by rw [h2];simp)
  have a5:=a4.1.pos
  exact antT_fuel _ _ (hg.1 x (by simp [hx'])).1 (by omega) (Nat.le_refl _)
theorem ant1_cuts {t:List Int} (h:qW t):ant1 t = sumS cmpF ((cutsL t).flatMap (cutE ant1)):=by
 have hp:=h.pos
 obtain ⟨m,hm⟩:∃ m,t.length = m + 1:=⟨t.length - 1,by omega⟩
 have e0:ant1 t = sumS cmpF ((cutsL t).flatMap (cutE (antT m))):=by unfold ant1;rw [hm];rfl
 rw [e0]
 congr 1
 have e:=cutE_ant1 h hm
 generalize cutsL t = C at e
 induction C with
 | nil => rfl
 | cons c C ihC => rw [List.flatMap_cons,List.flatMap_cons,e c (by simp),ihC fun x hx => e x (by simp [hx])]
theorem a_ofTree (n:Nat) (hn:n < 8) (ih:OfT n) (r:Nat) (t:List Int) (h:qW t) (hc:canon t = t) (hl:t.length ≤ n + 1) :
  AFnH (hidA r) Tryz.prog 140 [[.raw (.map (some r))],eL t] [.sl 2 ((ant1 t).map ePt)]:=by
 obtain ⟨H,hH⟩:∃ H,H = hidA r:=⟨_,rfl⟩
 have htt:=a_treeText 8 t h (by omega) (by omega)
 have hcu:=AFn.valT (a_cutsOf t h (by omega))
 obtain ⟨C,hC⟩:∃ C,C = cutsL t:=⟨_,rfl⟩
 have hCl:C.length ≤ 256:=by
  have h1:=kM _ (Nat.le_refl _) h
  have h2:2 ^ t.length ≤ 2 ^ 8:=Nat.pow_le_pow_right (by decide) (by omega)
  have h3:=(yB (split t)).len
  rw [List.length_map] at h3
  rw [hC];unfold cutsL;rw [List.length_map]
  omega
 rw [← hC] at hcu
 simp only [eL] at htt hcu
 have hcut:∀ c ∈ cutsL t,(1 ≤ c.2∧c.2 ≤ 256)∧(c.1.2 ≠ []→(∀ x ∈ c.1.1,qW x∧canon x = x∧x.length ≤ n)∧qX c.1.1 ≤ 8∧(cutE ant1 c).length ≤ 256∧(1 ≤ c.1.2.length∧c.1.2.length ≤ 8)):=fun c hcm => by
  obtain ⟨z,hz,rfl,hg,hz1,h1⟩:=wP h hcm
  have h2:=(wG (xO _ (Nat.le_refl _) h) z hz).2.1
  have h3:=kM _ (Nat.le_refl _) h
  have h4:2 ^ t.length ≤ 2 ^ 8:=Nat.pow_le_pow_right (by decide) (by omega)
  refine ⟨⟨hz1,Int.le_trans h2 (by omega)⟩,fun htn => ?_⟩
  rcases h1 with ⟨_,h1⟩|⟨_,h1⟩
  ·exact absurd h1 htn
  ·have a2:=hg.2
   have a3:qX z.1.2 = (cutS z).1.2.length:=by rw [h1];simp [qX]
   have a4:=hg.1 (cutS z).1.2 (by rw [h1];simp)
   have a5:=a4.1.pos
   have hx1:∀ x ∈ z.1.1,qW x∧canon x = x∧x.length ≤ n:=fun x hx => by
    have b1:=hg.1 x (by simp [hx])
    have b2:=jN hx
    exact ⟨b1.1,b1.2,by omega⟩
   refine ⟨hx1,?_,?_,a5,by omega⟩
   ·show qX z.1.1 ≤ 8
    omega
   ·unfold cutE
    rw [if_neg htn]
    refine Nat.le_trans (qG0 _) ?_
    rw [prodLn,List.length_singleton,Nat.mul_one]
    refine Nat.le_trans (vO (cutS z).1.1 [(1,[])] fun x hx => wJ x.length x (hx1 x hx).1 (hx1 x hx).2.1 (Nat.le_refl _)) ?_
    have e1:eF (cutS z).1.1 ≤ qX z.1.1:=eF_le _
    have e2:2 ^ eF (cutS z).1.1 ≤ 2 ^ 8:=Nat.pow_le_pow_right (by decide) (by omega)
    rw [List.length_singleton,Nat.one_mul]
    exact e2
 have hKl:∀ i,((C.take i).flatMap (cutE ant1)).length ≤ 256 * 256:=fun i => by
  have key:∀ (L:List Cu),(∀ c ∈ L,(cutE ant1 c).length ≤ 256)→(L.flatMap (cutE ant1)).length ≤ 256 * L.length:=by
   intro L
   induction L with
   | nil => intro _;simp
   | cons c L ihL =>
    intro hL
    rw [List.flatMap_cons,List.length_append,List.length_cons]
    have a1:=hL c (by simp)
    have a2:=ihL fun x hx => hL x (by simp [hx])
    omega
  refine Nat.le_trans (key _ fun c hcm => ?_) (Nat.mul_le_mul_left _ (by rw [List.length_take];omega))
  have hcm:c ∈ cutsL t:=by rw [← hC];exact List.mem_of_mem_take hcm
  by_cases htn:c.1.2 = []
  ·unfold cutE;rw [if_pos htn];simp
  ·exact ((hcut c hcm).2 htn).2.2.1
 have hKA:KA (bstr (txtF 8 t)) (.sl 2 ((ant1 t).map ePt)):=⟨t,h,hc,by omega,rfl,rfl⟩
 rw [← hH]
 refine AFnH.of_runs1 (cfg_okH 59 H) Tryz.func140 rfl rfl rfl gz ?_
 have hres:Tryz.f140.results.toList = [.tmp 4]:=rfl
 have hrts:Tryz.f140.resultTypes.toList = [50]:=rfl
 simp only [qU,qT,eL,eI,eLL,eB,Nat.zero_add,Nat.reduceAdd]
 intro M
 refine qQ.of ?_
 repeat' (first|with_reducible (first|refine Q1 ?_|refine Q2 ?_|refine Q3 ?_|refine Q4 ?_|refine Q5 ?_|refine Q6 ?_|refine Q7 ?_|refine Q8 ?_|refine Q9 ?_|refine Qa ?_|refine Qb ?_|refine Qc ?_|refine Qd ?_|refine Qe ?_|refine Qf ?_|refine QO ?_|refine QV 27 ?_|refine QY 27 ?_)|with_reducible ((first|apply QS (qE 59) (Tab.none.at' 124 htt)|apply QC);refine QW ?_;simp only [Zg,Zi,seval];rfl)|with_reducible (apply QD (qE 59) (Tab.none.at' 124 htt) qA;(refine QW ?_;simp only [Zg,Zd,Zi,seval];rfl);refine QK ?_;simp only [Zk];kernel_rfl))
 ((repeat' (first|with_reducible (first|refine Q1 ?_|refine Q2 ?_|refine Q3 ?_|refine Q4 ?_|refine Q5 ?_|refine Q6 ?_|refine Q7 ?_|refine Q8 ?_|refine Q9 ?_|refine Qa ?_|refine Qb ?_|refine Qc ?_|refine Qd ?_|refine Qe ?_|refine Qf ?_|refine QO ?_|refine QV 27 ?_|refine QY 27 ?_)|with_reducible (apply QC;refine QW ?_;simp only [Zg,Zi,seval];rfl)));(with_reducible refine qQ.regCut (qE 59) Tab.none 2 (s1:=?_) ?_ ?_);rotate_left 1;(focus ((with_reducible refine QW ?_);simp only [Zg,Zi,seval];with_reducible rfl));simp only [List.toList_toArray,List.drop_succ_cons,List.drop_zero])
 refine qY.lookup2 (r:=r) (S:=fun _ => False) (K:=KA) (d:=17) (k:=⟨(txtF 8 t).toArray⟩) Tryz.underlying104 Tryz.underlying9 (by kernel_rfl) hH rfl (by rfl) rfl (by show 17 < 59;decide) rfl rfl (fun z hz => ?_) (fun _ => ?_)
 ·have hz:=KA.of h (by omega) hz
  subst hz
  (refine qY.opsT (qE 59) (T:=Tab.none) (s':=?_) ?_ ?_;rotate_left 1;focus (simp only [Zg,Zi,seval];with_reducible rfl))
  repeat' (first|with_reducible (first|refine Q1 ?_|refine Q2 ?_|refine Q3 ?_|refine Q4 ?_|refine Q5 ?_|refine Q6 ?_|refine Q7 ?_|refine Q8 ?_|refine Q9 ?_|refine Qa ?_|refine Qb ?_|refine Qc ?_|refine Qd ?_|refine Qe ?_|refine Qf ?_|refine QO ?_|refine QV 27 ?_|refine QY 27 ?_)|with_reducible ((first|apply QS (qE 59) Tab.none|apply QC);refine QW ?_;simp only [Zg,Zi,seval];rfl)|with_reducible (apply QD (qE 59) Tab.none qA;(refine QW ?_;simp only [Zg,Zd,Zi,seval];rfl);refine QK ?_;simp only [Zk];kernel_rfl))
  (refine Ends.mk (by simp) (rs:=?_) (ks:=?_) hres hrts ?_ ?_ ?_;rotate_left 2;(focus (simp only [Ze,Zg,Zi,seval];with_reducible rfl));(focus simp);focus (first|with_reducible rfl|(simp only [Zv];done)))
 ·(refine qY.opsT (qE 59) (T:=Tab.none) (s':=?_) ?_ ?_;rotate_left 1;focus (simp only [Zg,Zi,seval];with_reducible rfl))
  repeat' (first|with_reducible (first|refine Q1 ?_|refine Q2 ?_|refine Q3 ?_|refine Q4 ?_|refine Q5 ?_|refine Q6 ?_|refine Q7 ?_|refine Q8 ?_|refine Q9 ?_|refine Qa ?_|refine Qb ?_|refine Qc ?_|refine Qd ?_|refine Qe ?_|refine Qf ?_|refine QO ?_|refine QV 27 ?_|refine QY 27 ?_)|with_reducible ((first|apply QS (qE 59) ((Tab.none.at' 58 hcu))|apply QC);refine QW ?_;simp only [Zg,Zi,seval,List.length_map];rfl)|with_reducible (apply QD (qE 59) ((Tab.none.at' 58 hcu)) qA;(refine QW ?_;simp only [Zg,Zd,Zi,seval,List.length_map];rfl);refine QK ?_;simp only [Zk];kernel_rfl))
  refine qQ.loop (β:=Nat) (γ:=Unit) (fun i => ⟨[(0,.c (.val (.raw (.map (some r))))),(5,.c (.val (.raw (bstr (txtF 8 t))))),(8,.c (.own 8 ((C.take i).flatMap (cutE ant1)).length)),(24,.c (.val (.sl 3 (C.map eCu)))),(25,.c (.val (.int C.length))),(26,.c (.val (.int i)))],[(8,.row 2 (((C.take i).flatMap (cutE ant1)).map ePt) false)]⟩) (fun i => i ≤ C.length) (fun i => C.length - i)
   (fun _ => ⟨[(0,.c (.val (.raw (.map (some r))))),(5,.c (.val (.raw (bstr (txtF 8 t))))),(8,.c (.own 8 (C.flatMap (cutE ant1)).length))],[(8,.row 2 ((C.flatMap (cutE ant1)).map ePt) false)]⟩) (fun _ => True) 0 (Nat.zero_le _) ?_ ?_ ?_
  ·(repeat' (first|exact Qn|((with_reducible refine Qr ?_ ?_);focus first|with_reducible rfl|(simp only [Zz,Nat.reduceBEq,List.take_zero,List.flatMap_nil,List.map_nil,List.length_nil,Int.natCast_zero];done)|rfl)|((with_reducible apply Qj);rfl)|((with_reducible refine Qw ?_ ?_);(focus first|with_reducible rfl|(simp only [Zv,List.take_zero,List.flatMap_nil,List.map_nil,List.length_nil,Int.natCast_zero];done));first|exact id|exact nofun|exact fun _=>rfl)))
  ·intro i hi
   have hi:i ≤ C.length:=hi
   have hw:=qH (n:=i) (by omega)
   by_cases h':i < C.length
   ·have i1:((i:Int) < (C.length:Int)) = True:=eq_true (by omega)
    have i2:((0:Int) ≤ (i:Int)) = True:=eq_true (by omega)
    obtain ⟨c,hcc⟩:∃ c,c = C[i]:=⟨_,rfl⟩
    have hcm:c ∈ cutsL t:=by rw [hcc,← hC];exact List.getElem_mem _
    have hKb:=hKl i
    have hst:(C.take (i + 1)).flatMap (cutE ant1) = (C.take i).flatMap (cutE ant1) ++ cutE ant1 c:=by rw [hcc,List.take_succ_eq_append_getElem h',List.flatMap_append,List.flatMap_cons,List.flatMap_nil,List.append_nil]
    obtain ⟨K,hK⟩:∃ K,K = (C.take i).flatMap (cutE ant1):=⟨_,rfl⟩
    rw [← hK] at hst hKb ⊢
    have hg:(C.map eCu)[i]? = some [.sl 1 (c.1.1.map eL),.sl 1 (c.1.2.map eI),.int c.2]:=by rw [qD h',hcc];rfl
    have hle:(C.map eCu).length = C.length:=List.length_map _
    have hlt:(K.map ePt).length = K.length:=List.length_map _
    obtain ⟨hcb,hct⟩:=hcut c hcm
    by_cases htn:c.1.2 = []
    ·have b0:((c.1.2.length:Int) == 0) = true:=by rw [htn];rfl
     have he:cutE ant1 c = []:=by unfold cutE;rw [if_pos htn]
     rw [he,List.append_nil] at hst
     repeat' (first|with_reducible (first|refine Q1 ?_|refine Q2 ?_|refine Q3 ?_|refine Q4 ?_|refine Q5 ?_|refine Q6 ?_|refine Q7 ?_|refine Q8 ?_|refine Q9 ?_|refine Qa ?_|refine Qb ?_|refine Qc ?_|refine Qd ?_|refine Qe ?_|refine Qf ?_|refine QO ?_|refine QV 27 ?_|refine QY 27 ?_)|with_reducible ((first|apply QS (qE 59) Tab.none|apply QC);refine QW ?_;simp only [Zg,Zi,seval,i1,i2,hg,hw,hle,Int.toNat_natCast,List.length_map,b0];rfl)|with_reducible (apply QD (qE 59) Tab.none qA;(refine QW ?_;simp only [Zg,Zd,Zi,seval,i1,i2,hg,hw,hle,Int.toNat_natCast,List.length_map,b0];rfl);refine QK ?_;simp only [Zk];kernel_rfl))
     refine qZ.on (i + 1) ⟨h',by omega⟩ ?_
     rw [hst]
     (repeat' (first|exact Qn|((with_reducible refine Qr ?_ ?_);focus first|with_reducible rfl|(simp only [Zz,Nat.reduceBEq];done)|rfl)|((with_reducible apply Qj);rfl)|((with_reducible refine Qw ?_ ?_);(focus first|with_reducible rfl|(simp only [Zv];done));first|exact id|exact nofun|exact fun _=>rfl)))
    ·obtain ⟨hcr,hcs,hce,hctr⟩:=hct htn
     have hpos:0 < c.1.2.length:=List.length_pos_iff.2 htn
     have b0:((c.1.2.length:Int) == 0) = false:=beq_eq_false_iff_ne.2 (by omega)
     have hwn:w64 (0 - c.2) = -c.2:=by rw [qN (by omega)];omega
     have he:cutE ant1 c = sumS cmpF (prodL (ant c.1.1) [(mP (-c.2),[c.1.2])]):=by unfold cutE;rw [if_neg htn];rfl
     have ho:=a_ofForest n (by omega) ih r c.1.1 hcr (by omega)
     rw [← hH] at ho
     have hgdc:GdA (qX c.1.1) (ant c.1.1):=by
      have:=GdA.fold (g:=ant1) (f:=c.1.1) (out:=[(1,[])]) (m:=0) (fun x hx => vR x.length (hcr x hx).1 (Nat.le_refl _)) gd_one
      rw [Nat.zero_add] at this
      exact this
     have hlc:(ant c.1.1).length ≤ 300:=by
      have h1:=vO (g:=ant1) c.1.1 [(1,[])] (fun x hx => wJ x.length x (hcr x hx).1 (hcr x hx).2.1 (Nat.le_refl _))
      have h2:=eF_le c.1.1
      have h3:2 ^ eF c.1.1 ≤ 2 ^ 8:=Nat.pow_le_pow_right (by decide) (by omega)
      rw [List.length_singleton,Nat.one_mul] at h1
      exact Nat.le_trans h1 (by omega)
     have hpr:=a_products (ant c.1.1) [(mP (-c.2),[c.1.2])] (hgdc.sz (by omega)) (fun q hq => by
      obtain rfl:=List.mem_singleton.1 hq
      exact ⟨xU _,by simp,by simp [qX];omega⟩) hlc (by simp)
     rw [← he] at hpr
     simp only [List.map_cons,List.map_nil,ePt,eL] at hpr
     obtain ⟨X,hX⟩:∃ X,X = cutE ant1 c:=⟨_,rfl⟩
     rw [← hX] at hst hce hpr
     have hXl:(X.map ePt).length = X.length:=List.length_map _
     have q1:=jV (n:=K.length + X.length) (by omega)
     have q2:=jW (n:=K.length + X.length) (c:=32) (by omega) (by omega)
     repeat' (first|with_reducible (first|refine Q1 ?_|refine Q2 ?_|refine Q3 ?_|refine Q4 ?_|refine Q5 ?_|refine Q6 ?_|refine Q7 ?_|refine Q8 ?_|refine Q9 ?_|refine Qa ?_|refine Qb ?_|refine Qc ?_|refine Qd ?_|refine Qe ?_|refine Qf ?_|refine QO ?_|refine QV 27 ?_|refine QY 27 ?_)|with_reducible ((first|apply QS (qE 59) Tab.none|apply QC);refine QW ?_;simp only [Zg,Zi,seval,i1,i2,hg,hw,hle,Int.toNat_natCast,List.length_map,b0];rfl)|with_reducible (apply QD (qE 59) Tab.none qA;(refine QW ?_;simp only [Zg,Zd,Zi,seval,i1,i2,hg,hw,hle,Int.toNat_natCast,List.length_map,b0];rfl);refine QK ?_;simp only [Zk];kernel_rfl))
     (((with_reducible refine qQ.wFz (qE 59) TSm qA [11] (tr:=?_) (s1:=?_) (rest:=?_) ?_ ?_ ?_);rotate_left 3;(focus ((with_reducible refine QW ?_);simp only [Zg,Zd,Zi,seval,drunF,xT,xN,valD,kU,List.contains_cons,List.contains_nil,TSm,TSm,hwn];with_reducible rfl));focus ((with_reducible refine QK ?_);simp only [Zk];kernel_rfl));(refine qY.opsT (qE 59) (T:=TSm) (s':=?_) ?_ ?_;rotate_left 1;focus (simp only [Zg,Zi,seval,TSm,TSm,hwn];with_reducible rfl)))
     repeat' (first|with_reducible (first|refine Q1 ?_|refine Q2 ?_|refine Q3 ?_|refine Q4 ?_|refine Q5 ?_|refine Q6 ?_|refine Q7 ?_|refine Q8 ?_|refine Q9 ?_|refine Qa ?_|refine Qb ?_|refine Qc ?_|refine Qd ?_|refine Qe ?_|refine Qf ?_|refine QO ?_|refine QV 27 ?_|refine QY 27 ?_)|with_reducible ((first|apply QS (qE 59) Tab.none|apply QC);refine QW ?_;simp only [Zg,Zi,seval,hw];rfl)|with_reducible (apply QD (qE 59) Tab.none qA;(refine QW ?_;simp only [Zg,Zd,Zi,seval,hw];rfl);refine QK ?_;simp only [Zk];kernel_rfl))
     refine qQ.frz 40 ?_
     simp only [St.frz,look,frzR,frzH,AV.frz,AC.frz,Obj.frz,drop,List.map_cons,List.map_nil,Nat.reduceEqDiff,if_true,if_false,List.length_cons,List.length_nil]
     refine qQ.fits (s0:=⟨[(0,.c (.val (.raw (.map (some r))))),(5,.c (.val (.raw (bstr (txtF 8 t))))),(8,.c (.own 8 K.length)),(10,.optr 10 0 0),(11,.c (.own 11 1)),(24,.c (.val (.sl 3 (C.map eCu)))),(25,.c (.val (.int C.length))),(26,.c (.val (.int i)))],
      [(8,.row 2 (K.map ePt) false),(10,.row 3 [[.sl 1 (c.1.1.map eL),.sl 1 (c.1.2.map eI),.int c.2]] false),(11,.lit 2 [[.val (.int (mP (-c.2))),.val (.sl 1 [[.sl 1 (c.1.2.map eI)]])]])]⟩) ?_ ?_
     ·(repeat' (first|exact Qn|((with_reducible refine Qr ?_ ?_);focus first|with_reducible rfl|(simp only [Zz,Nat.reduceBEq];done)|rfl)|((with_reducible apply Qj);rfl)|((with_reducible refine Qw ?_ ?_);(focus first|with_reducible rfl|(simp only [Zv];done));first|exact id|exact nofun|exact fun _=>rfl)))
      all_goals exact ⟨rfl,rfl⟩
     refine qQ.litRow 11 [.int (mP (-c.2)),.sl 1 [[.sl 1 (c.1.2.map eI)]]] rfl ?_
     simp only [insR,Nat.reduceEqDiff,Nat.reduceLT,if_true,if_false]
     ((repeat' (first|with_reducible (first|refine Q1 ?_|refine Q2 ?_|refine Q3 ?_|refine Q4 ?_|refine Q5 ?_|refine Q6 ?_|refine Q7 ?_|refine Q8 ?_|refine Q9 ?_|refine Qa ?_|refine Qb ?_|refine Qc ?_|refine Qd ?_|refine Qe ?_|refine Qf ?_|refine QO ?_|refine QV 27 ?_|refine QY 27 ?_)|with_reducible (apply QC;refine QW ?_;simp only [Zg,Zi,seval];rfl)));(with_reducible refine qQ.regCut (qE 59) Tab.none 4 (s1:=?_) ?_ ?_);rotate_left 1;(focus ((with_reducible refine QW ?_);simp only [Zg,Zi,seval];with_reducible rfl));simp only [List.toList_toArray,List.drop_succ_cons,List.drop_zero])
     refine qY.callH (qE 59) (d:=47) (g:=76) (ds:=[[.raw (.map (some r))],[.sl 1 (c.1.1.map eL)]]) (by rfl) ho ?_
     refine qY.frzs [11] ?_
     (refine qY.opsT (qE 59) (T:=Tab.none.at' 83 hpr) (s':=?_) ?_ ?_;rotate_left 1;focus (simp only [Zg,Zi,seval,q1,q2,hlt,hXl,St.frzs,St.frz,frzR,frzH,AV.frz,AC.frz];with_reducible rfl))
     repeat' (first|with_reducible (first|refine Q1 ?_|refine Q2 ?_|refine Q3 ?_|refine Q4 ?_|refine Q5 ?_|refine Q6 ?_|refine Q7 ?_|refine Q8 ?_|refine Q9 ?_|refine Qa ?_|refine Qb ?_|refine Qc ?_|refine Qd ?_|refine Qe ?_|refine Qf ?_|refine QO ?_|refine QV 27 ?_|refine QY 27 ?_)|with_reducible ((first|apply QS (qE 59) Tab.none|apply QC);refine QW ?_;simp only [Zg,Zi,seval,hw];rfl)|with_reducible (apply QD (qE 59) Tab.none qA;(refine QW ?_;simp only [Zg,Zd,Zi,seval,hw];rfl);refine QK ?_;simp only [Zk];kernel_rfl))
     refine qZ.on (i + 1) ⟨h',by omega⟩ ?_
     rw [hst]
     (repeat' (first|exact Qn|((with_reducible refine Qr ?_ ?_);focus first|with_reducible rfl|(simp only [Zz,Nat.reduceBEq];done)|rfl)|((with_reducible apply Qj);rfl)|((with_reducible refine Qw ?_ ?_);(focus first|with_reducible rfl|(simp only [Zv];done));first|exact id|exact nofun|exact fun _=>rfl)))
   ·have i1:((i:Int) < (C.length:Int)) = False:=eq_false (by omega)
    obtain rfl:i = C.length:=by omega
    rw [List.take_length]
    repeat' (first|with_reducible (first|refine Q1 ?_|refine Q2 ?_|refine Q3 ?_|refine Q4 ?_|refine Q5 ?_|refine Q6 ?_|refine Q7 ?_|refine Q8 ?_|refine Q9 ?_|refine Qa ?_|refine Qb ?_|refine Qc ?_|refine Qd ?_|refine Qe ?_|refine Qf ?_|refine QO ?_|refine QV 27 ?_|refine QY 27 ?_)|with_reducible ((first|apply QS (qE 59) Tab.none|apply QC);refine QW ?_;simp only [Zg,Zi,seval,i1];rfl)|with_reducible (apply QD (qE 59) Tab.none qA;(refine QW ?_;simp only [Zg,Zd,Zi,seval,i1];rfl);refine QK ?_;simp only [Zk];kernel_rfl))
    refine qZ.out () trivial ?_
    (repeat' (first|exact Qn|((with_reducible refine Qr ?_ ?_);focus first|with_reducible rfl|(simp only [Zz,Nat.reduceBEq];done)|rfl)|((with_reducible apply Qj);rfl)|((with_reducible refine Qw ?_ ?_);(focus first|with_reducible rfl|(simp only [Zv];done));first|exact id|exact nofun|exact fun _=>rfl)))
  ·rintro _ _
   have hsm:=AFn.valT (a_summed (C.flatMap (cutE ant1)) (by have:=hKl C.length;rw [List.take_length] at this;omega) (fun q hq => by
    obtain ⟨c,hcm,hq⟩:=List.mem_flatMap.1 hq
    rw [hC] at hcm
    by_cases htn:c.1.2 = []
    ·unfold cutE at hq;rw [if_pos htn] at hq;cases hq
    ·obtain ⟨hcr,hcs,_,hctr⟩:=(hcut c hcm).2 htn
     have hgdc:GdA (qX c.1.1) (antF ant1 c.1.1):=by
      have:=GdA.fold (g:=ant1) (f:=c.1.1) (out:=[(1,[])]) (m:=0) (fun x hx => vR x.length (hcr x hx).1 (Nat.le_refl _)) gd_one
      rw [Nat.zero_add] at this
      exact this
     have hc2:GdA c.1.2.length [(mP (-c.2),[c.1.2])]:=fun q hq => by
      obtain rfl:=List.mem_singleton.1 hq
      exact ⟨xU _,fun t ht => by obtain rfl:=List.mem_singleton.1 ht;exact hctr.1,by simp [qX]⟩
     unfold cutE at hq
     rw [if_neg htn] at hq
     have h1:=GdA.sum (hgdc.prod hc2)
     have h2:=h1 q hq
     have h3:q.2.length ≤ qX q.2:=gd_len h1 q hq
     exact ⟨h2.1,by omega,by omega⟩))
   rw [hC,← ant1_cuts h,← hC] at hsm
   obtain ⟨H2,hH2⟩:∃ H2,H2 = hidM KA (fun q => (fun _ => False) q ∨ q = .string ⟨(txtF 8 t).toArray⟩) r:=⟨_,rfl⟩
   refine qQ.next ?_
   refine qQ.update (qE 59) (Tab.none.at' 89 hsm) 4 [] (cfg':=cfg 59 H2) (k:=⟨(txtF 8 t).toArray⟩) (z:=.sl 2 ((ant1 t).map ePt)) (s1:=?zs1) rfl hH hH2 Tryz.underlying104 Tryz.underlying9 ?ha rfl rfl rfl rfl ?hx ?hy ?hv hKA ?_
   case ha =>
    simp only [List.toList_toArray,List.take_succ_cons,List.take_zero]
    simp only [Zg,Zi,seval]
    with_reducible rfl
   case hx => rfl
   case hy => rfl
   case hv => rfl
   simp only [St.frzs]
   ((repeat' (first|with_reducible (first|refine Q1 ?_|refine Q2 ?_|refine Q3 ?_|refine Q4 ?_|refine Q5 ?_|refine Q6 ?_|refine Q7 ?_|refine Q8 ?_|refine Q9 ?_|refine Qa ?_|refine Qb ?_|refine Qc ?_|refine Qd ?_|refine Qe ?_|refine Qf ?_|refine QO ?_|refine QV 27 ?_|refine QY 27 ?_)|with_reducible (apply QC;refine QW ?_;simp only [Zg,Zi,seval];rfl)));(with_reducible refine qQ.regCut (qE 59) Tab.none 2 (s1:=?_) ?_ ?_);rotate_left 1;(focus ((with_reducible refine QW ?_);simp only [Zg,Zi,seval];with_reducible rfl));simp only [List.toList_toArray,List.drop_succ_cons,List.drop_zero])
   refine qY.lookup1 (r:=r) (S:=fun q => (fun _ => False) q ∨ q = .string ⟨(txtF 8 t).toArray⟩) (K:=KA) (d:=58) (k:=⟨(txtF 8 t).toArray⟩) Tryz.underlying104 Tryz.underlying9 (by kernel_rfl) hH2 (.inr rfl) rfl (by rfl) rfl (by show 58 < 59;decide) rfl rfl (fun z hz => ?_)
   have hz:=KA.of h (by omega) hz
   subst hz
   (refine qY.opsT (qE 59) (T:=Tab.none) (s':=?_) ?_ ?_;rotate_left 1;focus (simp only [Zg,Zi,seval];with_reducible rfl))
   repeat' (first|with_reducible (first|refine Q1 ?_|refine Q2 ?_|refine Q3 ?_|refine Q4 ?_|refine Q5 ?_|refine Q6 ?_|refine Q7 ?_|refine Q8 ?_|refine Q9 ?_|refine Qa ?_|refine Qb ?_|refine Qc ?_|refine Qd ?_|refine Qe ?_|refine Qf ?_|refine QO ?_|refine QV 27 ?_|refine QY 27 ?_)|with_reducible ((first|apply QS (qE 59) Tab.none|apply QC);refine QW ?_;simp only [Zg,Zi,seval];rfl)|with_reducible (apply QD (qE 59) Tab.none qA;(refine QW ?_;simp only [Zg,Zd,Zi,seval];rfl);refine QK ?_;simp only [Zk];kernel_rfl))
   show outK Tryz.prog (cfg 59 H) M [] _ _ _
   (refine Ends.mk (by simp) (rs:=?_) (ks:=?_) hres hrts ?_ ?_ ?_;rotate_left 2;(focus (simp only [Ze,Zg,Zi,seval];with_reducible rfl));(focus simp);focus (first|with_reducible rfl|(simp only [Zv];done)))
theorem ofT_all:∀ n,n ≤ 8→OfT n
 | 0,_ => fun r t h _ hl => by have:=h.pos;omega
 | n + 1,hn => fun r t h hc hl => a_ofTree n (by omega) (ofT_all n (by omega)) r t h hc hl
end
section
def antM (e:Elt):Elt:=e.flatMap fun p => (ant p.2).map fun q => (mP (q.1 * p.1),q.2)
def antOf (e:Elt):Elt × Int:=if elB e = true then limS (sumS cmpF (antM e)) else ([],1)
theorem a_impl_AntipodeOf (e:Elt) (hz:szP e):AFn Tryz.prog 25 [[.sl 2 (e.map ePt)]] (· = [.own 2 ((antOf e).1.map ePt) true,.val (.int (antOf e).2)]):=by
 have h1:=yL0 e hz
 unfold antOf
 refine AFn.of_runs (qJ 33) Tryz.func25 rfl rfl rfl gz ?_
 have hres:Tryz.f25.results.toList = [.tmp 2,.tmp 3]:=rfl
 have hrts:Tryz.f25.resultTypes.toList = [50,2]:=rfl
 simp only [qU,qT,eL,eI,eLL,eB,Nat.zero_add,Nat.reduceAdd]
 intro M
 refine qQ.of ?_
 by_cases hE:elB e = true
 rotate_left
 ·have hE':elB e = false:=by simpa using hE
  rw [if_neg hE]
  rw [hE'] at h1
  repeat' (first|with_reducible (first|refine Q1 ?_|refine Q2 ?_|refine Q3 ?_|refine Q4 ?_|refine Q5 ?_|refine Q6 ?_|refine Q7 ?_|refine Q8 ?_|refine Q9 ?_|refine Qa ?_|refine Qb ?_|refine Qc ?_|refine Qd ?_|refine Qe ?_|refine Qf ?_|refine QO ?_|refine QV 16 ?_|refine QY 16 ?_)|with_reducible ((first|apply QS (qJ 33) (Tab.none.at' 32 h1)|apply QC);refine QW ?_;simp only [Zg,Zi,seval];rfl)|with_reducible (apply QD (qJ 33) (Tab.none.at' 32 h1) qA;(refine QW ?_;simp only [Zg,Zd,Zi,seval];rfl);refine QK ?_;simp only [Zk];kernel_rfl))
  (refine Ends.mk (by simp) (rs:=?_) (ks:=?_) hres hrts ?_ ?_ ?_;rotate_left 2;(focus (simp only [Ze,Zg,Zi,seval];with_reducible rfl));(focus simp);focus (first|with_reducible rfl|(simp only [Zv];done)))
 rw [hE] at h1
 rw [if_pos hE]
 ((repeat' (first|with_reducible (first|refine Q1 ?_|refine Q2 ?_|refine Q3 ?_|refine Q4 ?_|refine Q5 ?_|refine Q6 ?_|refine Q7 ?_|refine Q8 ?_|refine Q9 ?_|refine Qa ?_|refine Qb ?_|refine Qc ?_|refine Qd ?_|refine Qe ?_|refine Qf ?_|refine QO ?_|refine QV 16 ?_|refine QY 16 ?_)|with_reducible (apply QC;refine QW ?_;simp only [Zg,Zi,seval];rfl)));with_reducible (apply QS (qJ 33) Tab.none;refine QW ?_;simp only [Zg,Zi,seval];rfl);(repeat' (first|with_reducible (first|refine Q1 ?_|refine Q2 ?_|refine Q3 ?_|refine Q4 ?_|refine Q5 ?_|refine Q6 ?_|refine Q7 ?_|refine Q8 ?_|refine Q9 ?_|refine Qa ?_|refine Qb ?_|refine Qc ?_|refine Qd ?_|refine Qe ?_|refine Qf ?_|refine QO ?_|refine QV 16 ?_|refine QY 16 ?_)|with_reducible (apply QC;refine QW ?_;simp only [Zg,Zi,seval];rfl))))
 have hok:=elB_okE hE
 have hld:=hok.2.1
 have hfor:∀ p ∈ e,(∀ t ∈ p.2,qW t∧canon t = t∧t.length ≤ 8)∧qX p.2 ≤ 8:=fun p hp => by
  have hb:=(vY hE).2.2.2 p hp
  have hs:=(forB_tree' hb).2
  exact ⟨fun t ht => ⟨forB_lev hb t ht,forB_can hb t ht,by have:=jN ht;omega⟩,hs⟩
 have hcf:∀ p ∈ e,0 ≤ p.1∧p.1 < 10007:=fun p hp => by have:=(hok.1 p hp).1;omega
 have hgd:∀ p ∈ e,GdA (qX p.2) (ant p.2):=fun p hp => by
  have:=GdA.fold (g:=ant1) (f:=p.2) (out:=[(1,[])]) (m:=0) (fun x hx => vR x.length ((hfor p hp).1 x hx).1 (Nat.le_refl _)) gd_one
  rw [Nat.zero_add] at this
  exact this
 have hln:∀ p ∈ e,(ant p.2).length ≤ 256:=fun p hp => by
  have h1:=vO (g:=ant1) p.2 [(1,[])] (fun x hx => wJ x.length x ((hfor p hp).1 x hx).1 ((hfor p hp).1 x hx).2.1 (Nat.le_refl _))
  have h2:=eF_le p.2
  have h3:2 ^ eF p.2 ≤ 2 ^ 8:=Nat.pow_le_pow_right (by decide) (by have:=(hfor p hp).2;omega)
  rw [List.length_singleton,Nat.one_mul] at h1
  exact Nat.le_trans h1 h3
 have hMl:∀ i,(antM (e.take i)).length ≤ 76800:=fun i => by
  have key:∀ (L:Elt),(∀ p ∈ L,(ant p.2).length ≤ 256)→(antM L).length ≤ 256 * L.length:=by
   intro L
   induction L with
   | nil => intro _;simp [antM]
   | cons c L ihL =>
    intro hL
    have e1:antM (c :: L) = ((ant c.2).map fun q => (mP (q.1 * c.1),q.2)) ++ antM L:=rfl
    rw [e1,List.length_append,List.length_map,List.length_cons]
    have a1:=hL c (by simp)
    have a2:=ihL fun x hx => hL x (by simp [hx])
    omega
  have:=key (e.take i) fun p hp => hln p (List.mem_of_mem_take hp)
  rw [List.length_take] at this
  omega
 ((repeat' (first|with_reducible (first|refine Q1 ?_|refine Q2 ?_|refine Q3 ?_|refine Q4 ?_|refine Q5 ?_|refine Q6 ?_|refine Q7 ?_|refine Q8 ?_|refine Q9 ?_|refine Qa ?_|refine Qb ?_|refine Qc ?_|refine Qd ?_|refine Qe ?_|refine Qf ?_|refine QO ?_|refine QV 16 ?_|refine QY 16 ?_)|with_reducible (apply QC;refine QW ?_;simp only [Zg,Zi,seval];rfl)));(with_reducible refine qQ.regCut (qJ 33) (Tab.none.at' 32 h1) 3 (s1:=?_) ?_ ?_);rotate_left 1;(focus ((with_reducible refine QW ?_);simp only [Zg,Zi,seval];with_reducible rfl));simp only [List.toList_toArray,List.drop_succ_cons,List.drop_zero])
 refine qY.nil ?_
 refine qQ.next ?_
 refine qQ.condF rfl ?_
 refine qQ.skip ?_
 refine qQ.next ?_
 refine qQ.makeMap (qJ 33) Tab.none (cfg':=fun r => cfg 33 (hidA r)) (K:=KA) 0 (dd:=11) (fun r => qE 33) (fun _ => rfl) rfl (fun _ => rfl) rfl rfl rfl rfl rfl (by show 11 < 33;decide) (fun r M' => ⟨?s2,?ha,?hb⟩)
 case ha =>
  simp only [Zg,Zi,seval]
  with_reducible rfl
 case hb =>
  obtain ⟨H,hH⟩:∃ H,H = hidA r:=⟨_,rfl⟩
  show qQ _ (cfg 33 (hidA r)) _ _ _ _ _
  rw [← hH]
  repeat' (first|with_reducible (first|refine Q1 ?_|refine Q2 ?_|refine Q3 ?_|refine Q4 ?_|refine Q5 ?_|refine Q6 ?_|refine Q7 ?_|refine Q8 ?_|refine Q9 ?_|refine Qa ?_|refine Qb ?_|refine Qc ?_|refine Qd ?_|refine Qe ?_|refine Qf ?_|refine QO ?_|refine QV 16 ?_|refine QY 16 ?_)|with_reducible ((first|apply QS (qE 33) Tab.none|apply QC);refine QW ?_;simp only [Zg,Zi,seval,List.length_map];rfl)|with_reducible (apply QD (qE 33) Tab.none qA;(refine QW ?_;simp only [Zg,Zd,Zi,seval,List.length_map];rfl);refine QK ?_;simp only [Zk];kernel_rfl))
  refine qQ.loop (β:=Nat) (γ:=Unit) (fun i => ⟨[(4,.c (.val (.raw (.map (some r))))),(5,.c (.own 5 (antM (e.take i)).length)),(13,.c (.val (.sl 2 (e.map ePt)))),(14,.c (.val (.int e.length))),(15,.c (.val (.int i)))],[(5,.row 2 ((antM (e.take i)).map ePt) false)]⟩) (fun i => i ≤ e.length) (fun i => e.length - i)
   (fun _ => ⟨[(5,.c (.own 5 (antM e).length))],[(5,.row 2 ((antM e).map ePt) false)]⟩) (fun _ => True) 0 (Nat.zero_le _) ?_ ?_ ?_
  ·(repeat' (first|exact Qn|((with_reducible refine Qr ?_ ?_);focus first|with_reducible rfl|(simp only [Zz,Nat.reduceBEq,List.take_zero,show antM [] = [] from rfl,List.map_nil,List.length_nil,Int.natCast_zero];done)|rfl)|((with_reducible apply Qj);rfl)|((with_reducible refine Qw ?_ ?_);(focus first|with_reducible rfl|(simp only [Zv,List.take_zero,show antM [] = [] from rfl,List.map_nil,List.length_nil,Int.natCast_zero];done));first|exact id|exact nofun|exact fun _=>rfl)))
  ·intro i hi
   have hi:i ≤ e.length:=hi
   have hw:=qH (n:=i) (by omega)
   by_cases h':i < e.length
   ·have i1:((i:Int) < (e.length:Int)) = True:=eq_true (by omega)
    have i2:((0:Int) ≤ (i:Int)) = True:=eq_true (by omega)
    obtain ⟨p,hpp⟩:∃ p,p = e[i]:=⟨_,rfl⟩
    have hpm:p ∈ e:=by rw [hpp];exact List.getElem_mem _
    have hKb:=hMl i
    have hst:antM (e.take (i + 1)) = antM (e.take i) ++ (ant p.2).map fun q => (mP (q.1 * p.1),q.2):=by rw [hpp];unfold antM;rw [List.take_succ_eq_append_getElem h',List.flatMap_append,List.flatMap_cons,List.flatMap_nil,List.append_nil]
    obtain ⟨K,hK⟩:∃ K,K = antM (e.take i):=⟨_,rfl⟩
    rw [← hK] at hst hKb ⊢
    have hg:(e.map ePt)[i]? = some [.int p.1,.sl 1 (p.2.map eL)]:=by rw [qD h',hpp];rfl
    have hle:(e.map ePt).length = e.length:=List.length_map _
    have hlt:(K.map ePt).length = K.length:=List.length_map _
    have ho:=a_ofForest 8 (Nat.le_refl _) (ofT_all 8 (Nat.le_refl _)) r p.2 (hfor p hpm).1 (hfor p hpm).2
    rw [← hH] at ho
    have hmu:=a_multiples (ant p.2) p.1 (fun q hq => (hgd p hpm q hq).1) (hcf p hpm) (by have:=hln p hpm;omega)
    obtain ⟨X,hX⟩:∃ X,X = (ant p.2).map fun q => (mP (q.1 * p.1),q.2):=⟨_,rfl⟩
    have hXl:(X.map ePt).length = X.length:=List.length_map _
    have hXb:X.length ≤ 256:=by rw [hX,List.length_map];exact hln p hpm
    rw [← hX] at hst hmu
    simp only [eI] at hmu
    have q1:=jV (n:=K.length + X.length) (by omega)
    have q2:=jW (n:=K.length + X.length) (c:=32) (by omega) (by omega)
    repeat' (first|with_reducible (first|refine Q1 ?_|refine Q2 ?_|refine Q3 ?_|refine Q4 ?_|refine Q5 ?_|refine Q6 ?_|refine Q7 ?_|refine Q8 ?_|refine Q9 ?_|refine Qa ?_|refine Qb ?_|refine Qc ?_|refine Qd ?_|refine Qe ?_|refine Qf ?_|refine QO ?_|refine QV 16 ?_|refine QY 16 ?_)|with_reducible ((first|apply QS (qE 33) Tab.none|apply QC);refine QW ?_;simp only [Zg,Zi,seval,i1,i2,hg,hw,hle,Int.toNat_natCast,List.length_map];rfl)|with_reducible (apply QD (qE 33) Tab.none qA;(refine QW ?_;simp only [Zg,Zd,Zi,seval,i1,i2,hg,hw,hle,Int.toNat_natCast,List.length_map];rfl);refine QK ?_;simp only [Zk];kernel_rfl))
    refine qQ.regDH (qE 33) (Tab.none.at' 75 hmu) qA 4 (o:=?zo) (tr1:=?ztr1) (s1:=?zs1) (tr2:=?ztr2) (s2:=?zs3) (rest:=?zrest) (s':=?zs) (d:=23) (g:=76) (ds:=[[.raw (.map (some r))],[.sl 1 (p.2.map eL)]]) ?h1 ?hl ?ho ?hac ho ?h2 ?hc ?hfr ?h3 ?_
    case h1 =>
     simp only [List.toList_toArray,List.take_succ_cons,List.take_zero]
     simp only [Zg,Zd,Zi,seval]
     with_reducible rfl
    case hl => rfl
    case ho => rfl
    case hac => rfl
    case h2 =>
     simp only [List.toList_toArray,List.drop_succ_cons,List.drop_zero,List.map_cons,List.map_nil,outAV]
     simp only [Zg,Zd,Zi,seval]
     with_reducible rfl
    case hc => kernel_rfl
    case hfr => rfl
    case h3 =>
     simp only [Zg,Zi,seval,q1,q2,hlt,hXl]
     with_reducible rfl
    repeat' (first|with_reducible (first|refine Q1 ?_|refine Q2 ?_|refine Q3 ?_|refine Q4 ?_|refine Q5 ?_|refine Q6 ?_|refine Q7 ?_|refine Q8 ?_|refine Q9 ?_|refine Qa ?_|refine Qb ?_|refine Qc ?_|refine Qd ?_|refine Qe ?_|refine Qf ?_|refine QO ?_|refine QV 16 ?_|refine QY 16 ?_)|with_reducible ((first|apply QS (qE 33) Tab.none|apply QC);refine QW ?_;simp only [Zg,Zi,seval,hw];rfl)|with_reducible (apply QD (qE 33) Tab.none qA;(refine QW ?_;simp only [Zg,Zd,Zi,seval,hw];rfl);refine QK ?_;simp only [Zk];kernel_rfl))
    refine qZ.on (i + 1) ⟨h',by omega⟩ ?_
    rw [hst]
    (repeat' (first|exact Qn|((with_reducible refine Qr ?_ ?_);focus first|with_reducible rfl|(simp only [Zz,Nat.reduceBEq];done)|rfl)|((with_reducible apply Qj);rfl)|((with_reducible refine Qw ?_ ?_);(focus first|with_reducible rfl|(simp only [Zv];done));first|exact id|exact nofun|exact fun _=>rfl)))
   ·have i1:((i:Int) < (e.length:Int)) = False:=eq_false (by omega)
    obtain rfl:i = e.length:=by omega
    rw [List.take_length]
    repeat' (first|with_reducible (first|refine Q1 ?_|refine Q2 ?_|refine Q3 ?_|refine Q4 ?_|refine Q5 ?_|refine Q6 ?_|refine Q7 ?_|refine Q8 ?_|refine Q9 ?_|refine Qa ?_|refine Qb ?_|refine Qc ?_|refine Qd ?_|refine Qe ?_|refine Qf ?_|refine QO ?_|refine QV 16 ?_|refine QY 16 ?_)|with_reducible ((first|apply QS (qE 33) Tab.none|apply QC);refine QW ?_;simp only [Zg,Zi,seval,i1];rfl)|with_reducible (apply QD (qE 33) Tab.none qA;(refine QW ?_;simp only [Zg,Zd,Zi,seval,i1];rfl);refine QK ?_;simp only [Zk];kernel_rfl))
    refine qZ.out () trivial ?_
    (repeat' (first|exact Qn|((with_reducible refine Qr ?_ ?_);focus first|with_reducible rfl|(simp only [Zz,Nat.reduceBEq];done)|rfl)|((with_reducible apply Qj);rfl)|((with_reducible refine Qw ?_ ?_);(focus first|with_reducible rfl|(simp only [Zv];done));first|exact id|exact nofun|exact fun _=>rfl)))
  ·rintro _ _
   have hli:=a_limited (antM e) (by have:=hMl e.length;rw [List.take_length] at this;omega) (fun q hq => by
    unfold antM at hq
    obtain ⟨p,hp,hq⟩:=List.mem_flatMap.1 hq
    obtain ⟨x,hx,rfl⟩:=List.mem_map.1 hq
    have h1:=(hgd p hp) x hx
    have h2:=gd_len (hgd p hp) x hx
    have h3:=(hfor p hp).2
    exact ⟨xU _,by show x.2.length ≤ 19;omega,by show qX x.2 ≤ 100;omega⟩)
   repeat' (first|with_reducible (first|refine Q1 ?_|refine Q2 ?_|refine Q3 ?_|refine Q4 ?_|refine Q5 ?_|refine Q6 ?_|refine Q7 ?_|refine Q8 ?_|refine Q9 ?_|refine Qa ?_|refine Qb ?_|refine Qc ?_|refine Qd ?_|refine Qe ?_|refine Qf ?_|refine QO ?_|refine QV 16 ?_|refine QY 16 ?_)|with_reducible ((first|apply QS (qE 33) (Tab.none.at' 77 hli)|apply QC);refine QW ?_;simp only [Zg,Zi,seval];rfl)|with_reducible (apply QD (qE 33) (Tab.none.at' 77 hli) qA;(refine QW ?_;simp only [Zg,Zd,Zi,seval];rfl);refine QK ?_;simp only [Zk];kernel_rfl))
   show outK Tryz.prog (cfg 33) M [] _ _ _
   (refine Ends.mk (by simp) (rs:=?_) (ks:=?_) hres hrts ?_ ?_ ?_;rotate_left 2;(focus (simp only [Ze,Zg,Zi,seval];with_reducible rfl));(focus simp);focus (first|with_reducible rfl|(simp only [Zv];done)))
end
section
structure EmA (d e p:Elt):Prop where
 bd:elB d = true
 be:elB e = true
 bp:elB p = true
 q:timOf e d = (p,0)
 deg:(degE p = -1∧(degE d = -1 ∨ degE e = -1)) ∨ (degE p = degE d + degE e∧degE d ≠ -1∧degE e ≠ -1∧degE p ≠ -1)
 two:∃ s,sclOf p 2 = (s,0)∧elB s = true
def dotE:Elt:=[(1,[[0]])]
structure EmB (f g s:Elt):Prop where
 bf:elB f = true
 bg:elB g = true
 bs:elB s = true
 minus:∃ m,sclOf g 10006 = (m,0)∧addOf s m = (f,0)
 dist:∃ a x b y h z u v,timOf s dotE = (a,x)∧timOf f dotE = (b,y)∧timOf g dotE = (h,z)∧addOf b h = (u,v)∧(x = 0 ∨ x = 3)∧(y = 0 ∨ y = 3)∧(z = 0 ∨ z = 3)∧(v = 0 ∨ v = 3)∧(x = 0→y = 0→z = 0→v = 0→a = u)
end
end Go.Proofs.YtedgfkpfhonlpaaGreat

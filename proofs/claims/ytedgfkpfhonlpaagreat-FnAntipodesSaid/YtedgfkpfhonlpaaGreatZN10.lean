/- Lemmas (10). -/
import Derived.ChangeSame
import Derived.Test.YtedgfkpfhonlpaaGreatZN0
import Derived.Test.YtedgfkpfhonlpaaGreatZN1
import Derived.Test.YtedgfkpfhonlpaaGreatZN3
import Derived.Test.YtedgfkpfhonlpaaGreatZN5
import Derived.Test.YtedgfkpfhonlpaaGreatZN6
import Derived.Test.YtedgfkpfhonlpaaGreatZN7
import Derived.Test.YtedgfkpfhonlpaaGreatZN8
import Derived.Test.YtedgfkpfhonlpaaGreatZN9
set_option maxHeartbeats 16000000
set_option maxRecDepth 100000
set_option linter.unusedSimpArgs false
set_option linter.unusedVariables false
namespace Go.Proofs.YtedgfkpfhonlpaaGreat
open Go.RowKit
section
theorem Row.take {w:World} {k n m cap:Nat} {ds:List Value} {og:Option Nat} (h:Row w (slv og n cap) k n ds og) (hm:m ≤ n):Row w (slv og m cap) k m (ds.take (m * k)) og:=by
 refine ⟨by rw [List.length_take,h.1];exact Nat.min_eq_left (Nat.mul_le_mul_right k hm),?_⟩
 rcases h.2 with ⟨h1,h2,h3⟩|⟨g,c,cur,e,h1,h2,h3,h4,h5,h6,h7⟩
 ·subst h3
  exact .inl ⟨rfl,by omega,rfl⟩
 ·subst h2
  have hc:cap = c:=by
   unfold slv at h1
   simp only [Value.slice.injEq] at h1
   exact h1.2.2
  subst hc
  refine .inr ⟨g,cap,cur,e,rfl,rfl,h3,by omega,h5,h6,?_⟩
  rw [← h7,List.take_take,Nat.min_eq_left (Nat.mul_le_mul_right k hm)]
section
variable {P:Program} {cfg:Cfg} {M:Nat→Prop} {w0:W0} {w w':World} {Ok:Nat→Prop} {N:Nat} {σ:Asg} {s:St} {a:Act} {ops:Array Oper}
theorem Sim.trunc (h:Sim w0 Ok N σ s a w) {key k n:Nat} {xs:List (List D)} {d:Bool} (hk:look key s.heap = some (.row k xs d)) (hn:n ≤ xs.length) (hnr:∀ q u,q ≠ key→look q s.heap = some u→key ∉ u.refs) :
  Sim w0 Ok N σ ⟨killR key s.regs,insR key (.row k (xs.take n) false) s.heap⟩ a w:=by
 have hro:=h.rows key _ hk
 obtain ⟨ds,hrow,hkp,hrd⟩:=RowOK.rd h.ok1 h.rows h.disj hk
 have hlen:(xs.take n).length = n:=by rw [List.length_take];omega
 have hfp0:∀ b ∈ fp σ key (.row k (xs.take n) false),b ∈ fp σ key (.row k xs d):=by
  intro b hb
  have hb:b ∈ (σ.g key).toList ++ []:=hb
  rw [List.append_nil] at hb
  exact List.mem_append_left _ hb
 have hl:∀ q o',look q (insR key (.row k (xs.take n) false) s.heap) = some o'→(q = key∧o' = .row k (xs.take n) false) ∨ (q ≠ key∧look q s.heap = some o'):=by
  intro q o' ho'
  rw [jU] at ho'
  split at ho'
  ·rename_i e;cases ho';exact .inl ⟨e.symm,rfl⟩
  ·rename_i e;exact .inr ⟨fun e' => e e'.symm,ho'⟩
 have hZ:jQ σ σ s.heap (insR key (.row k (xs.take n) false) s.heap) w w:=fun b hb => ⟨⟨hb.1,hb.2.1,fun q o' ho' => by
  rcases hl q o' ho' with ⟨rfl,_⟩|⟨_,ho⟩
  ·exact hb.2.2 q _ hk
  ·exact hb.2.2 q _ ho⟩,rfl⟩
 have hst:∀ q,q ≠ key→jY σ σ s.heap (insR key (.row k (xs.take n) false) s.heap) q:=fun q hq o' ho' => by
  rcases hl q o' ho' with ⟨e,_⟩|⟨_,ho⟩
  ·exact absurd e hq
  ·exact ⟨o',ho,rfl,rfl,rfl,rfl⟩
 refine (h.killed key).step rfl h.below hZ (fun _ _ => rfl) (fun r av hr => ⟨av,hr,.inl ⟨rfl,fun q hq => hst q ?_⟩⟩) (fun q o' ho' => ?_) (fun p o1 q u hp hq hpq b hb hb' => ?_)
 ·have hr':look r (killR key s.regs) = some av:=hr
  rw [qF0] at hr'
  obtain ⟨v,_,rfl⟩:=map_some hr'
  exact (AV.kill_refs hq).1
 ·rcases hl q o' ho' with ⟨rfl,rfl⟩|⟨hq,ho⟩
  ·refine ⟨⟨ds.take (n * k),?_,hkp,?_⟩,fun b hb => hro.fresh b (hfp0 b hb),?_⟩
   ·show Row w (slv (σ.g q) (xs.take n).length (σ.cap q)) k (xs.take n).length _ (σ.g q)
    rw [hlen]
    exact Row.take hrow hn
   ·show rdR k _ w _ (xs.take n)
    exact (hrd.take n hn).mono (fun b hb _ => (hZ b hb).1)
   ·show ((σ.g q).toList ++ []).Nodup
    rw [List.append_nil]
    cases σ.g q <;> simp
  ·exact RowOK.keep h.ok1 h.rows h.disj ho hZ (fun q' hq' => hst q' (fun e => hnr q o' hq ho (e ▸ hq'))) rfl rfl rfl (fun _ _ => rfl)
 ·have hp2:∃ o2,look p s.heap = some o2∧b ∈ fp σ p o2:=by
   rcases hl p o1 hp with ⟨rfl,rfl⟩|⟨_,ho⟩
   ·exact ⟨_,hk,hfp0 b hb⟩
   ·exact ⟨_,ho,hb⟩
  have hq2:∃ o2,look q s.heap = some o2∧b ∈ fp σ q o2:=by
   rcases hl q u hq with ⟨rfl,rfl⟩|⟨_,ho⟩
   ·exact ⟨_,hk,hfp0 b hb'⟩
   ·exact ⟨_,ho,hb'⟩
  obtain ⟨o2,ho2,hb2⟩:=hp2
  obtain ⟨u2,hu2,hb3⟩:=hq2
  exact h.disj p o2 q u2 ho2 hu2 hpq b hb2 hb3
theorem kJ {z d:D} {k:Nat} {xs:List (List D)} (h:d.un = .sl k xs):cellD z (.val d) = some (d,false):=by
 cases d with
 | sl => rfl
 | tag => rfl
 | int => cases h
 | bool => cases h
 | raw => cases h
theorem qJ.regCut (C:CfgOK P cfg) (T:Tab P) {fs:List Fr} {Q:Exit→St→Prop} {id:Nat} (n:Nat) {s1:St} (ha:Work (aopsT cfg T ops (ops.toList.take n) s) (some s1))
  (h:qW P cfg M ops (ops.toList.drop n) (outK P cfg M fs Q .normal) s1):qJ P cfg M (.region id ops false) fs Q s:=by
 refine qA.region ?_
 have e:ops.toList = ops.toList.take n ++ ops.toList.drop n:=(List.take_append_drop n _).symm
 have cut:∀ (l m:List Oper) (s:St),aopsT cfg T ops l s = some s1→qW P cfg M ops m (outK P cfg M fs Q .normal) s1→qW P cfg M ops (l ++ m) (outK P cfg M fs Q .normal) s:=by
  intro l
  induction l with
  | nil => intro m s h1 h2;simp only [aopsT,Option.some.injEq] at h1;subst h1;exact h2
  | cons o l ih =>
   intro m s h1 h2
   simp only [aopsT] at h1
   obtain ⟨s2,h3,h4⟩:=bind_some h1
   exact qW.stepT C h3 (ih m s2 h4 h2)
 rw [e]
 exact cut _ _ s ha h
theorem qW.trunc (C:CfgOK P cfg) {o:Oper} {l:List Oper} {Q:St→Prop} {x hi:Operand} {t:TypeId} {i:TyI} {d key m n k:Nat} {xs:List (List D)} {dd:Bool} (ho:o.op = .slice t x none (some hi) none) (hg:o.guard = none) (hd:o.dst = some d) (hdN:d < cfg.N)
  (ht:cfg.sl t = some i) (hx:opv s.regs x = some (.c (.own key m))) (hh:(opv s.regs hi).bind avI = some (n:Int)) (hk:look key s.heap = some (.row k xs dd)) (hle:n ≤ xs.length) (hnr:∀ q u,q ≠ key→look q s.heap = some u→key ∉ u.refs)
  (h:qW P cfg M ops l Q ⟨insR d (.c (.own key n)) (killR key s.regs),insR key (.row k (xs.take n) false) s.heap⟩):qW P cfg M ops (o :: l) Q s:=by
 intro w0 Ok σ a w Q' hM hS hQ
 refine wpList_step (fun K hK => ?_)
 have hw:qN ops s.regs o = some true:=by unfold qN;rw [hg]
 rw [xX hS hw]
 simp only [if_true]
 obtain ⟨z,T,_⟩:=C.sl t i ht
 obtain ⟨ti,hti,_,hsz,_⟩:=T.hi
 have hxr:=(qP hS hx).2 _ hk
 obtain ⟨e1,e2⟩:=hxr
 have e1:m = xs.length:=e1
 obtain ⟨hv,h3,h4⟩:=bind_some hh
 have hhi:a.eval hi = .int .i64 n:=(jJ.1 (show rdV (Zn σ s.heap w) w (a.eval hi) (.int n) by
  have hr:=qP hS h3
  unfold avI at h4
  split at h4
  ·cases h4;exact hr.2
  ·cases h4)).1
 have hro:=hS.rows key _ hk
 obtain ⟨ds,hrow,_⟩:=hro.row
 have hrow:Row w (slv (σ.g key) xs.length (σ.cap key)) k xs.length ds (σ.g key):=hrow
 obtain ⟨oa,c,ev,k1,k2,k3,k4⟩:=wI hrow
 have hxe:a.eval x = .slice oa m c:=by rw [e2,e1];exact ev
 have hrun:(execOp a.eval o).run P w = .ok (.value (slv (σ.g key) n (σ.cap key))) w:=by
  unfold execOp
  rw [ho]
  have:=run_sliceSl (P:=P) T.ht ⟨ti,hti,hsz⟩ (oa:=oa) (m:=m) (c:=c) (lo:=none) (hi:=some (n:Int)) (by simp) (by simp) (by simp;omega) (by rw [e1];exact k1) w
  simp only [Option.getD_none,Option.getD_some,Option.map_none,Option.map_some] at this
  rw [show (0:Int).toNat = 0 from rfl,Int.toNat_natCast,Nat.sub_zero,Nat.sub_zero,Nat.zero_mul] at this
  have hval:(Value.slice (if c = 0 then oa else oa.map (·.add 0)) n c) = slv (σ.g key) n (σ.cap key):=by
   cases hgk:σ.g key with
   | none =>
    rw [hgk] at k4 hrow
    have h0:=hrow.len0
    have hoa:oa = none:=k4
    have hc0:=k3 hoa
    subst hoa
    have:n = 0:=by omega
    subst this;subst hc0
    rfl
   | some b =>
    rw [hgk] at k4 ev
    have hoa:oa = some ⟨b,0,none⟩:=k4
    unfold slv at ev
    simp only [Value.slice.injEq] at ev
    rw [hoa,← ev.2.2]
    simp [slv,Addr.add]
  rw [← hval]
  simp only [hxe,hhi,Option.map_none,Option.map_some]
  simp [this]
 unfold Oper.wp
 rw [hrun]
 show K (a.put o.dst _) _
 rw [hd]
 have hS2:=hS.trunc hk hle hnr
 refine hK _ _ (h w0 Ok σ _ _ Q' hM (Sim.ins hS2 hdN ⟨by cases σ.g key <;> rfl,fun o' ho' => ?_⟩) hQ)
 rw [jU,if_pos rfl] at ho'
 cases ho'
 have hlen:(xs.take n).length = n:=by rw [List.length_take];omega
 exact ⟨hlen.symm,rfl⟩
theorem qW.clear (C:CfgOK P cfg) {o:Oper} {l:List Oper} {Q:St→Prop} {x:Operand} {t:TypeId} {i:TyI} {key j m k:Nat} {xs:List (List D)} {dd:Bool} (ho:o.op = .call ⟨.builtin .clear,#[x],#[t]⟩) (hg:o.guard = none) (hd:o.dst = none)
  (ht:cfg.sl t = some i) (hx:opv s.regs x = some (.c (.view key j m))) (hk:look key s.heap = some (.row k xs dd)) (hki:k = i.z.length) (hle:j + m = xs.length)
  (h:qW P cfg M ops l Q ⟨s.regs,insR key (.row k (xs.take j ++ List.replicate m i.z) false) s.heap⟩):qW P cfg M ops (o :: l) Q s:=by
 intro w0 Ok σ a w Q' hM hS hQ
 refine wpList_step (fun K hK => ?_)
 have hw:qN ops s.regs o = some true:=by unfold qN;rw [hg]
 rw [xX hS hw]
 simp only [if_true]
 obtain ⟨z,T,hz⟩:=C.sl t i ht
 obtain ⟨_,oa,c,ev,v1,v2,v3,v4⟩:=(qP hS hx).2 _ hk
 have hro:=hS.rows key _ hk
 obtain ⟨ds,hrow,hkp,hrd⟩:=RowOK.rd hS.ok1 hS.rows hS.disj hk
 have hlen:(xs.take j ++ List.replicate m i.z).length = xs.length:=by simp;omega
 obtain ⟨W,hrun,hR,hgr⟩:∃ W,(execOp a.eval o).run P w = .ok (.value (.tuple #[])) W∧Row W (slv (σ.g key) xs.length (σ.cap key)) k xs.length (ds.take (j * k) ++ (List.replicate m (i.z.map zval)).flatten) (σ.g key)∧w.grownBy W (σ.g key):=by
  rcases v4 with rfl|⟨b,hgb,rfl⟩
  ·refine ⟨w,?_,?_,World.grownBy.refl _ _⟩
   ·unfold execOp
    rw [ho]
    cases oa <;> simp [resolve,invoke,builtin,ev,Builtin.clear_,run_underlying T.ht]
   ·have:ds.take (j * k) = ds:=List.take_of_length_le (by rw [hrow.1];simp at hle;rw [hle];exact Nat.le_refl _)
    rw [this];simpa using hrow
  ·rw [hgb] at hrow ⊢
   have ev:a.eval x = .slice (some ⟨b,j * k,none⟩) m c:=ev
   obtain ⟨cs,hcs⟩:∃ cs,cs = (Builtin.zeroCells z.cells m).toList:=⟨_,rfl⟩
   have hcs2:cs = (List.replicate m (i.z.map zval)).flatten:=by
    rw [hcs,← kN0 hz T.hk m]
    have hs:z.cells.size = i.z.length:=by rw [← Array.length_toList,hz.1,List.length_map]
    unfold Builtin.zeroCells madeCells
    rw [hs]
   have hcl:cs.length = m * k:=by rw [hcs2,hki];simp
   have hone:∀ v ∈ cs,v.oneCell' = true:=by
    intro v hv
    rw [hcs2] at hv
    have:=(rep_own hz.2 T.hk w m).rd.one
    exact this v hv
   have hoff:j * k + cs.length ≤ ds.length:=by rw [hrow.1,hcl,← Nat.add_mul,hle];exact Nat.le_refl _
   obtain ⟨r1,r2⟩:=Row.storeCells cs (j * k) hrow hoff
   refine ⟨w.setCells b (j * k) cs,?_,?_,r2⟩
   ·have hst:=run_storeCells_cells (P:=P) b (j * k) cs 0 w (fun q hq => by
     rw [Nat.add_zero]
     have hlt:j * k + q < ds.length:=by omega
     rw [hrow.cells (j * k + q) ds[j * k + q] (List.getElem?_eq_getElem hlt)];rfl) (fun q hq => hrow.frozen _) hone
    rw [Nat.add_zero] at hst
    unfold execOp
    rw [ho]
    cases m with
    | zero =>
     have:cs = []:=by rw [hcs2];rfl
     subst this
     simp [resolve,invoke,builtin,ev,Builtin.clear_,run_underlying T.ht]
     rfl
    | succ m =>
     obtain ⟨ti,hti,hzz,hsz,_⟩:=T.hi
     simp [resolve,invoke,builtin,ev,Builtin.clear_,run_underlying T.ht,zeroValue,typeInfo,hti,hzz,← hcs,hst]
   ·rw [hcs2] at r1 ⊢
    have e:qO ds (j * k) ((List.replicate m (i.z.map zval)).flatten) = ds.take (j * k) ++ (List.replicate m (i.z.map zval)).flatten:=by
     unfold qO
     rw [List.drop_of_length_le (by rw [hrow.1,← hcs2,hcl,← Nat.add_mul,hle];exact Nat.le_refl _),List.append_nil]
    rw [e] at r1
    exact r1
 unfold Oper.wp
 rw [hrun]
 show K (a.put o.dst _) _
 rw [hd]
 have hl:∀ q o',look q (insR key (.row k (xs.take j ++ List.replicate m i.z) false) s.heap) = some o'→(q = key∧o' = .row k (xs.take j ++ List.replicate m i.z) false) ∨ (q ≠ key∧look q s.heap = some o'):=by
  intro q o' ho'
  rw [jU] at ho'
  split at ho'
  ·rename_i e;cases ho';exact .inl ⟨e.symm,rfl⟩
  ·rename_i e;exact .inr ⟨fun e' => e e'.symm,ho'⟩
 have hblk:∀ b,b < w.heap.size→σ.g key ≠ some b→W.heap[b]? = w.heap[b]?:=fun b hb hne => hgr.block b hb (fun e => hne e.symm)
 have hZ:jQ σ σ s.heap (insR key (.row k (xs.take j ++ List.replicate m i.z) false) s.heap) w W:=fun b hb => ⟨⟨Nat.lt_of_lt_of_le hb.1 hgr.size,hb.2.1,fun q o' ho' => by
  rcases hl q o' ho' with ⟨rfl,_⟩|⟨_,ho⟩
  ·exact hb.2.2 q _ hk
  ·exact hb.2.2 q _ ho⟩,hblk b hb.1 (hb.2.2 key _ hk)⟩
 have hst:∀ q,jY σ σ s.heap (insR key (.row k (xs.take j ++ List.replicate m i.z) false) s.heap) q:=fun q o' ho' => by
  rcases hl q o' ho' with ⟨rfl,rfl⟩|⟨_,ho⟩
  ·exact ⟨_,hk,rfl,hlen.symm,rfl,rfl⟩
  ·exact ⟨o',ho,rfl,rfl,rfl,rfl⟩
 have hfp0:∀ b ∈ fp σ key (.row k (xs.take j ++ List.replicate m i.z) false),b ∈ fp σ key (.row k xs dd):=by
  intro b hb
  have hb:b ∈ (σ.g key).toList ++ []:=hb
  rw [List.append_nil] at hb
  exact List.mem_append_left _ hb
 refine hK _ _ (h w0 Ok σ _ _ Q' hM ?_ hQ)
 refine hS.step rfl (hS.below.grown hgr (fun b hb => hro.fresh b (qI hb))) hZ (hS.grownY hgr (fun b hb => hro.fresh b (qI hb))) (fun r av hr => ⟨av,hr,.inl ⟨rfl,fun q _ => hst q⟩⟩) (fun q o' ho' => ?_) (fun p o1 q u hp hq hpq b hb hb' => ?_)
 ·rcases hl q o' ho' with ⟨rfl,rfl⟩|⟨hq,ho⟩
  ·refine ⟨⟨ds.take (j * k) ++ (List.replicate m (i.z.map zval)).flatten,?_,hkp,?_⟩,fun b hb => hro.fresh b (hfp0 b hb),?_⟩
   ·show Row W (slv (σ.g q) (xs.take j ++ List.replicate m i.z).length (σ.cap q)) k (xs.take j ++ List.replicate m i.z).length _ (σ.g q)
    rw [hlen];exact hR
   ·show rdR k _ W _ (xs.take j ++ List.replicate m i.z)
    refine rdR.append (((hrd.take j (by omega)).step hZ)) ?_
    have:=(rep_own hz.2 T.hk W m).rd
    rw [← hki] at this
    exact this.mono (fun b hb _ => by cases hb)
   ·show ((σ.g q).toList ++ []).Nodup
    rw [List.append_nil]
    cases σ.g q <;> simp
  ·refine RowOK.keep hS.ok1 hS.rows hS.disj ho hZ (fun q' _ => hst q') rfl rfl rfl (fun b hb => hblk b (yG hS ho b (qI hb)) (fun e => ?_))
   exact hS.disj key _ q o' hk ho (fun e => hq e.symm) b (qI e) (qI hb)
 ·have hp2:∃ o2,look p s.heap = some o2∧b ∈ fp σ p o2:=by
   rcases hl p o1 hp with ⟨rfl,rfl⟩|⟨_,ho⟩
   ·exact ⟨_,hk,hfp0 b hb⟩
   ·exact ⟨_,ho,hb⟩
  have hq2:∃ o2,look q s.heap = some o2∧b ∈ fp σ q o2:=by
   rcases hl q u hq with ⟨rfl,rfl⟩|⟨_,ho⟩
   ·exact ⟨_,hk,hfp0 b hb'⟩
   ·exact ⟨_,ho,hb'⟩
  obtain ⟨o2,ho2,hb2⟩:=hp2
  obtain ⟨u2,hu2,hb3⟩:=hq2
  exact hS.disj p o2 q u2 ho2 hu2 hpq b hb2 hb3
end
end
section
section
variable {P:Program} {cfg:Cfg} {w0:W0} {w w':World} {Ok:Nat→Prop} {N:Nat} {σ σ':Asg} {s s':St} {a:Act} {M:Nat→Prop}
theorem jX.join {A:Nat→Prop}:∀ {pre:List (List D)} {ds:List (List D)} {vs1 vs2:List Value},jX A w pre vs1→jX A w ds vs2→jX A w (pre ++ ds) (vs1 ++ vs2)
 | [],ds,vs1,vs2,h,k => by rw [show vs1 = [] from h];exact k
 | d :: pre,ds,vs1,vs2,⟨v,us,e,h1,h2⟩,k => by
  subst e
  exact ⟨v,us ++ vs2,rfl,h1,jX.join h2 k⟩
theorem n_callR (C:CfgOK P cfg) (h:Sim w0 Ok N σ s a w) {o:Oper} {f:Operand} {args:Array Operand} {ts:Array TypeId} {g:FuncId} (ho:o.op = .call ⟨.value f,args,ts⟩) (hf:((opv s.regs f).bind avD).bind fnId = some g)
  {ds:List (List D)} (hd:jX (Zn σ s.heap w) w ds (args.toList.map a.eval)) {Q0:List Res→Prop} (hfn:AFn P g ds Q0)
  {K:Act→World→Prop} {Q:Exit→Act→World→Prop} {key:Nat} (hfr:∀ rs,Q0 rs→∀ q ob,look q (qV key rs).2 = some ob→Free s q)
  (hK:∀ rs,Q0 rs→∀ v w' σ',relAV σ' ((qV key rs).2 ++ s.heap) w' (outAV (qV key rs).1) v→Sim w0 Ok N σ' ⟨s.regs,(qV key rs).2 ++ s.heap⟩ a w'→K (a.put o.dst v) w'):o.wp P a w K Q:=by
 have hfv:a.eval f = .func (.func g) #[] #[]:=qA0 h hf
 have hrun:(execOp a.eval o).run P w = .ok (.enter g (args.map a.eval)) w:=by
  unfold execOp
  rw [ho]
  simp [resolve,Deferred.ofValue,hfv,invoke,hfn.call]
 obtain ⟨A,hA,hAa,hAz⟩:∃ A:Nat→Prop,(∀ b,A b→b < w.heap.size)∧jX A w ds (args.toList.map a.eval)∧((∃ rs,Q0 rs∧rs.all Res.scalar = false)→∀ b,A b→Zn σ s.heap w b):=by
  exact ⟨Zn σ s.heap w,fun _ h => h.1,hd,fun _ b hb => hb⟩
 have hcall:=hfn.fn A w (args.toList.map a.eval) hA hAa
 unfold Oper.wp
 rw [hrun,Oper.upon_enter]
 have e:(args.toList.map a.eval).toArray = args.map a.eval:=by rw [← Array.toList_map,Array.toArray_toList]
 rw [← e]
 refine hcall.mono ?_
 rintro e w' ⟨v,rs,rfl,hQ,hw,us,G,X,rfl,hG1,hG2,hrel⟩
 obtain ⟨σ',k0,k1,k2,k3,k4⟩:=jQ0 key σ hrel hG1
 have hgn:∀ q u,look q (qV key rs).2 = some u→∀ b,σ'.g q = some b→w.heap.size ≤ b:=fun q u hq b hb => hG2 b ((k2 q u hq).2.2.1 b (qI hb))
 have hZ1:(∀ b,A b→Zn σ s.heap w b)→∀ b,((A b ∨ w.heap.size ≤ b)∧b ∉ X)→b < w'.heap.size→Zn σ' ((qV key rs).2 ++ s.heap) w' b:=by
  intro hAz b hb hlt
  have hz:=jQ.grown hw h hAz b hb.1 hlt
  refine ⟨hlt,by rw [k0];exact hz.2.1,fun q u hq e => ?_⟩
  rw [yT] at hq
  cases hn:look q (qV key rs).2 with
  | some o' => exact hb.2 ((k2 q o' hn).2.2.2 b e)
  | none =>
   rw [hn] at hq
   rw [(k1 q hn).1] at e
   exact hz.2.2 q u hq e
 refine hK rs hQ _ w' σ' (out_rel ?_) ?_
 ·by_cases hsc:rs.all Res.scalar = true
  ·exact k4.relS hsc
  ·exact k4.rel (hZ1 (hAz ⟨rs,hQ,by simpa using hsc⟩))
 ·refine h.news k0 hw (hfr rs hQ) k1 (fun q o' hq => ?_) (fun q o' hq => ?_) k3
  ·obtain ⟨⟨dd,k,xs,d,b1,b2,b3,b4⟩,_⟩:=k2 q o' hq
   subst b1
   refine ⟨dd,b2,b3,?_⟩
   show if d = true then ownR k w' dd xs (σ'.F q) else rdR k (Zn σ' ((qV key rs).2 ++ s.heap) w') w' dd xs
   cases d with
   | true => rw [if_pos rfl];exact b4
   | false =>
    rw [if_neg (by decide)]
    have b4':rdR k (fun b => (A b ∨ w.heap.size ≤ b)∧b ∉ X) w' dd xs:=b4
    have hsc:rs.all Res.scalar = false:=by
     have key:∀ {rs:List Res} {key:Nat} {q:Nat},look q (qV key rs).2 = some (.row k xs false)→rs.all Res.scalar = false:=by
      intro rs
      induction rs with
      | nil => intro key q hq;cases hq
      | cons r rs ih =>
       intro key q hq
       cases r with
       | val d => rw [List.all_cons,ih (by simpa [qV,resAC] using hq),Bool.and_false]
       | own kk ys d =>
        simp only [qV,resAC,List.singleton_append,look] at hq
        split at hq
        ·cases hq;rfl
        ·rw [List.all_cons,ih hq,Bool.and_false]
     exact key hq
    exact b4'.mono (fun b hb hlt => hZ1 (hAz ⟨rs,hQ,hsc⟩) b hb hlt)
  ·obtain ⟨_,b5,b6,_⟩:=k2 q o' hq
   exact ⟨fun b hb => hG2 b (b6 b hb),b5⟩
theorem qW.callNilP (C:CfgOK P cfg) {ops:Array Oper} {o:Oper} {l:List Oper} {Q:St→Prop} {d:Nat} {f:Operand} {args:Array Operand} {ts:Array TypeId} {g:FuncId} (hb:qN ops s.regs o = some true) (hdN:d < cfg.N)
  (ho:o.op = .call ⟨.value f,args,ts⟩) (hod:o.dst = some d) (hf:((opv s.regs f).bind avD).bind fnId = some g)
  {xs:List Operand} {tx:List TypeId} {pre:List (List D)} {ys:List Operand} {ty:List TypeId} {post:List (List D)} (ha:args.toList = xs ++ .const (.slice none 0 0) :: ys) (hpre:aargs cfg (fun k => look k s.heap) s.regs xs tx = some pre) (hr:qM s.regs xs = []) (hpost:aargs cfg (fun k => look k s.heap) s.regs ys ty = some post) (hr2:qM s.regs ys = [])
  {rs:List Res} (hfn:AFn P g (pre ++ [.raw (.slice none 0 0)] :: post) (· = rs)) (hfr:(qV d rs).2.all (fun p => fresh s p.1) = true)
  (h:qW P cfg M ops l Q (s.got d rs)):qW P cfg M ops (o :: l) Q s:=by
 intro w0 Ok σ a w Q' hM hS hQ
 refine wpList_step (fun K hK => ?_)
 rw [xX hS hb]
 simp only [if_true]
 have hrel:jX (Zn σ s.heap w) w (pre ++ [.raw (.slice none 0 0)] :: post) (args.toList.map a.eval):=by
  rw [ha,List.map_append]
  exact jX.join ((vQ C hS hpre).2 hr) ⟨_,_,rfl,yJ.2 ⟨rfl,rfl⟩,(vQ C hS hpost).2 hr2⟩
 refine n_callR C hS (key:=d) ho hf hrel hfn (fun rs' e => e ▸ fun q ob hq => kV (List.all_eq_true.1 hfr _ (yC hq))) (fun rs' e v w' σ' hv hS' => ?_)
 subst e
 rw [hod]
 have hsub:∀ k o',look k (yV (qV d rs').2 s.heap) = some o'→look k ((qV d rs').2 ++ s.heap) = some o':=fun k o' ho' => by rw [vR] at ho';exact ho'
 exact hK _ _ (h w0 Ok σ' _ _ Q' hM (Sim.ins (hS'.forget (fun _ _ h => h) hsub) hdN (hv.sub hsub)) hQ)
end
noncomputable def atOwn (A:List (List D)) (k:Nat) (X:List (List D)) (B:List (List D)) (R:List Res) (a:List (List D)) (k':Nat) (x:List (List D)) (b:List (List D)):Option (List Res × Option (List (List D))):=by
 classical
 exact if a = A∧k' = k∧x = X∧b = B then some (R,Option.none) else Option.none
theorem wE (A:List (List D)) (k:Nat) (X:List (List D)) (B:List (List D)) (R:List Res):atOwn A k X B R A k X B = some (R,Option.none):=by
 unfold atOwn;rw [if_pos ⟨rfl,rfl,rfl,rfl⟩]
theorem atOwn_some {A:List (List D)} {k:Nat} {X:List (List D)} {B:List (List D)} {R:List Res} {a:List (List D)} {k':Nat} {x b:List (List D)} {r:List Res × Option (List (List D))} (h:atOwn A k X B R a k' x b = some r):a = A∧k' = k∧x = X∧b = B∧r = (R,Option.none):=by
 unfold atOwn at h
 split at h
 ·rename_i h1
  exact ⟨h1.1,h1.2.1,h1.2.2.1,h1.2.2.2,(Option.some.inj h).symm⟩
 ·exact nomatch h
noncomputable def Tab.own' {P:Program} (T:Tab P) (g:FuncId) (n:Nat) {A:List (List D)} {k:Nat} {X B:List (List D)} {R:List Res} (h:AOw P g A k X B (· = R)):Tab P :=
 T.own g ⟨false,n,atOwn A k X B R⟩ (fun pre k' xs post r _ e => by
  obtain ⟨rfl,rfl,rfl,rfl,rfl⟩:=atOwn_some e
  exact h.toEf)
end
section
theorem foldS_len {α:Type} (f:α→List Spl) (m:α→Nat):∀ (bs:List α) (A:List Spl),(∀ b ∈ bs,(f b).length ≤ 2 ^ m b)→(foldS A (bs.map f)).length ≤ A.length * 2 ^ (bs.map m).sum
 | [],A,_ => by simp [foldS]
 | b :: bs,A,h => by
  have h1:=foldS_len f m bs (A.flatMap fun s => (f b).map (catS s)) (fun x hx => h x (by simp [hx]))
  have h2:(A.flatMap fun s => (f b).map (catS s)).length = A.length * (f b).length:=by
   clear h1
   induction A with
   | nil => simp
   | cons a A ih => rw [List.flatMap_cons,List.length_append,ih,List.length_map,List.length_cons,Nat.succ_mul,Nat.add_comm]
  rw [h2] at h1
  have e:((b :: bs).map m).sum = m b + (bs.map m).sum:=by simp
  rw [e,Nat.pow_add]
  refine Nat.le_trans h1 ?_
  rw [← Nat.mul_assoc]
  exact Nat.mul_le_mul_right _ (Nat.mul_le_mul_left _ (h b (by simp)))
theorem kX:∀ (n:Nat) {t:List Int},t.length ≤ n→qZ t→(split t).length ≤ 2 ^ t.length
 | 0,t,hn,h => by have:=h.pos;omega
 | n + 1,t,hn,h => by
  rw [wK h,List.length_append,List.length_map,List.length_singleton]
  have h1:=foldS_len split List.length (brs t) [([],[])] (fun b hb => kX n (by have:=yN h b hb;omega) (jC h b hb))
  have hb:=kG h
  have h2:(prodS ((brs t).map split)).length ≤ 2 ^ qQ (brs t):=by
   have:(foldS [([],[])] ((brs t).map split)).length ≤ 1 * 2 ^ qQ (brs t):=h1
   rw [Nat.one_mul] at this;exact this
  rw [← hb,Nat.pow_succ]
  have:0 < 2 ^ qQ (brs t):=Nat.pow_pos (by decide)
  omega
theorem qZ0 {bs:List (List Int)} (h:∀ b ∈ bs,qZ b) (h8:qQ bs ≤ 8):(prodS (bs.map split)).length ≤ 256:=by
 have h1:=foldS_len split List.length bs [([],[])] (fun b hb => kX _ (Nat.le_refl _) (h b hb))
 have h2:(prodS (bs.map split)).length ≤ 2 ^ qQ bs:=by
  have:(foldS [([],[])] (bs.map split)).length ≤ 1 * 2 ^ qQ bs:=h1
  rw [Nat.one_mul] at this;exact this
 exact Nat.le_trans h2 (Nat.pow_le_pow_right (by decide) h8)
theorem kD {bs:List (List Int)} (h:∀ b ∈ bs,qZ b):∀ s ∈ prodS (bs.map split),yS (qQ bs) s:=fun s hs => by
 have:=yX0 split List.length bs [([],[])] 0 (fun b hb => xI _ (Nat.le_refl _) (h b hb)) (fun s hs => by
  obtain rfl:=List.mem_singleton.1 hs
  exact ⟨by simp,rfl⟩) s hs
 rw [Nat.zero_add] at this
 exact this
theorem yS.nrm {n:Nat} {s:Spl} (h:yS n s):yS n (nrmS s):=by
 refine ⟨fun t ht => h.1 t ?_,?_⟩
 ·unfold nrmS at ht
  simp only [List.mem_append,yW] at ht ⊢
  exact ht
 ·unfold nrmS
  simp only
  rw [vD (jH _),vD (jH _)]
  exact h.2
theorem len_sum:∀ {f:List (List Int)},(∀ t ∈ f,qZ t)→f.length ≤ qQ f
 | [],_ => Nat.le_refl _
 | t :: f,h => by
  have h1:=(h t (by simp)).pos
  have h2:=len_sum (f:=f) (fun x hx => h x (by simp [hx]))
  have:qQ (t :: f) = t.length + qQ f:=rfl
  rw [this,List.length_cons];omega
theorem yS.ha {n:Nat} {s:Spl} (h:yS n s) (hn:n ≤ 9):HaS s:=by
 have h1:=len_sum (f:=s.1) (fun t ht => (h.1 t (by simp [ht])).1)
 have h2:=len_sum (f:=s.2) (fun t ht => (h.1 t (by simp [ht])).1)
 have h3:=h.2
 exact ⟨⟨by omega,by omega⟩,⟨by omega,by omega⟩⟩
theorem gath_ok {L:List Spl} {n:Nat} (hL:∀ s ∈ L,yS n s) (hn:n ≤ 9):∀ p ∈ gathS L,1 ≤ p.2∧HaS p.1:=fun p hp => by
 have h:=yY L
 refine ⟨(h.cnt p hp).1,?_⟩
 obtain ⟨s,hs,e⟩:=List.mem_map.1 (h.key p hp)
 rw [← e]
 exact (hL s hs).nrm.ha hn
theorem kI {L:List Spl} {n:Nat} (hL:∀ s ∈ L,yS n s):∀ p ∈ gathS L,1 ≤ p.2∧p.2 ≤ L.length∧yS n p.1:=fun p hp => by
 have h:=yY L
 have hc:=h.cnt p hp
 rw [List.length_map] at hc
 refine ⟨hc.1,hc.2,?_⟩
 obtain ⟨s,hs,e⟩:=List.mem_map.1 (h.key p hp)
 rw [← e]
 exact (hL s hs).nrm
theorem gath_exp (L:List Spl):(expN (gathS L)).length = L.length:=by rw [(yY L).2.length_eq,List.length_map]
theorem gath_one:gathS [([],[])] = [(([],[]),1)]:=IsN.ext xC (yY _) one_is (List.Perm.refl _)
theorem prodS_snoc (Ls:List (List Spl)) (L:List Spl):prodS (Ls ++ [L]) = (prodS Ls).flatMap fun s => L.map (catS s):=by unfold prodS;rw [List.foldl_append];rfl
theorem times_gath (Ls:List (List Spl)) (L:List Spl):timesN cmpS mulS (gathS (prodS Ls)) (gathS L) = gathS (prodS (Ls ++ [L])):=by
 refine IsN.ext xC (IsN.times xC mulS (yY _) (yY _)) (yY _) ?_
 rw [prodS_snoc,qD0]
theorem qE0 {α:Type} {l:List α} {i:Nat} {P:α→Prop} (h:∀ b ∈ l,P b):∀ b ∈ l.take i,P b:=fun b hb => h b (List.mem_of_mem_take hb)
theorem xI0 (l:List (List Int)) (i:Nat):qQ (l.take i) ≤ qQ l:=by
 conv => rhs;rw [← List.take_append_drop i l,kE]
 omega
theorem a_l03Parts (t:List Int) (h:qZ t) (hl:t.length ≤ 1000):AFn Tryz.prog 230 [eL t] (· = [.own 1 ((brs t).map eL) true]) :=
 afn_L_oo (enters_of Tryz.func230 rfl rfl) (fun u w h' => kB0 u t w h' h (by omega))
theorem a_l03Branches (t:List Int) (h:qZ t) (hc:canon t = t) (hl:t.length ≤ 1000):AFn Tryz.prog 192 [eL t] (· = [.own 1 ((sortC cmpT (brs t)).map eL) true]):=by
 have h1:=xE0 t h hl
 have h2:=a_l03Parts t h hl
 have hb:=kG h
 have h3:=a_l03Sort (brs t) (by have:=brs_few h;omega) (fun b hb' => by have:=jK hb';omega)
 rw [hc] at h1
 simp only [eL,eLL] at h1 h2 h3
 refine AFn.of_runs (qX 7) Tryz.func192 rfl rfl rfl gz ?_
 have hres:Tryz.f192.results.toList = [.tmp 2]:=rfl
 have hrts:Tryz.f192.resultTypes.toList = [36]:=rfl
 simp only [qU,qT,eL,eI,eLL,eB,Nat.zero_add,Nat.reduceAdd]
 intro M
 refine qJ.of ?_
 refine gw42 (kk 3) ?_
 (refine Ends.mk (by simp) (rs:=?_) (ks:=?_) hres hrts ?_ ?_ ?_;rotate_left 2;(focus (simp only [Ze,Zg,Zi,seval,forest];with_reducible rfl));(focus simp);focus (first|with_reducible rfl|(simp only [Zv,forest];done)))
theorem a_l05Forest_of (n:Nat) (hT:∀ b,qZ b→canon b = b→b.length ≤ n→AFn Tryz.prog 132 [eL b] (· = [.val (.sl 3 ((gathS (split b)).map eSp))])) (bs:List (List Int)) (hb:∀ b ∈ bs,qZ b∧canon b = b∧b.length ≤ n) (h8:qQ bs ≤ 8) :
  AFn Tryz.prog 66 [eLL bs] (· = [.val (.sl 3 ((gathS (prodS (bs.map split))).map eSp))]):=by
 have hlev:∀ b ∈ bs,qZ b:=fun b hb' => (hb b hb').1
 have hbl:=len_sum hlev
 refine AFn.of_runs (qX 21) Tryz.func66 rfl rfl rfl gz ?_
 have hres:Tryz.f66.results.toList = [.tmp 2]:=rfl
 have hrts:Tryz.f66.resultTypes.toList = [33]:=rfl
 simp only [qU,qT,eL,eI,eLL,eB,Nat.zero_add,Nat.reduceAdd]
 intro M
 refine qJ.of ?_
 refine gw7 (kk 5) Y0 ?_
 refine qJ.frz 3 ?_
 refine qJ.fits (s0:=⟨[(0,.c (.val (.sl 1 (bs.map eL)))),(3,.c (.val (.sl 3 [[.sl 1 [],.sl 1 [],.int 1]]))),(4,.c (.val (.int 0)))],[]⟩) ?_ ?_
 ·exact gw36
 refine qJ.loop (β:=Nat) (γ:=Unit) (fun i => ⟨[(0,.c (.val (.sl 1 (bs.map eL)))),(3,.c (.val (.sl 3 ((gathS (prodS ((bs.take i).map split))).map eSp)))),(4,.c (.val (.int i)))],[]⟩) (fun i => i ≤ bs.length) (fun i => bs.length - i)
  (fun _ => ⟨[(3,.c (.val (.sl 3 ((gathS (prodS (bs.map split))).map eSp))))],[]⟩) (fun _ => True) 0 (Nat.zero_le _) ?_ ?_ ?_
 ·exact gw43 (show prodS [] = [([],[])] from rfl)
 ·intro i hi
  have hi:i ≤ bs.length:=hi
  have hw:=qD (n:=i) (by omega)
  by_cases h:i < bs.length
  ·have i1:((i:Int) < (bs.length:Int)) = True:=eq_true (by omega)
   have i2:((0:Int) ≤ (i:Int)) = True:=eq_true (by omega)
   obtain ⟨b,hbe⟩:∃ b,b = bs[i]:=⟨_,rfl⟩
   have hmem:b ∈ bs:=by rw [hbe];exact List.getElem_mem _
   have hg:(bs.map eL)[i]? = some [.sl 1 (b.map eI)]:=by rw [qE h,hbe];rfl
   have hle:(bs.map eL).length = bs.length:=List.length_map _
   obtain ⟨hb1,hb2,hb3⟩:=hb b hmem
   have hb4:b.length ≤ 8:=by have:=jK hmem;omega
   have ht:=hT b hb1 hb2 hb3
   have hX:=xI0 bs i
   have hlevX:=qE0 (i:=i) hlev
   have htm:=a_l05Times (gathS (prodS ((bs.take i).map split))) (gathS (split b)) (gath_ok (kD hlevX) (by omega)) (gath_ok (xI _ (Nat.le_refl _) hb1) (by omega))
    (by rw [gath_exp];have:=qZ0 hlevX (by omega);omega)
    (by rw [gath_exp];have:=kX _ (Nat.le_refl _) hb1;have h2:2 ^ b.length ≤ 2 ^ 8:=Nat.pow_le_pow_right (by decide) hb4;omega)
   rw [times_gath] at htm
   have htk:(bs.take (i + 1)).map split = (bs.take i).map split ++ [split b]:=by rw [hbe,List.take_succ_eq_append_getElem h,List.map_append];rfl
   simp only [eL] at ht
   refine gw44 (kk 5) (Y5 i1 i2 hg hw hle) ?_
   refine qY.on (i + 1) ⟨h,by omega⟩ ?_
   rw [htk]
   exact gw6 Y0
  ·have i1:((i:Int) < (bs.length:Int)) = False:=eq_false (by omega)
   obtain rfl:i = bs.length:=by omega
   rw [List.take_length]
   refine gw5 (kk 5) i1 ?_
   refine qY.out () trivial ?_
   exact gw6 Y0
 ·rintro _ _
  refine gw7 (kk 5) Y0 ?_
  exact gw8
theorem tree_sum {t:List Int} (h:qZ t) (hc:canon t = t):(gathS (prodS ((sortC cmpT (brs t)).map split))).foldl (fun s p => putN cmpS s p.2 (rootS p.1)) [(([t],[]),1)] = gathS (split t):=by
 have hf:=spec_tree h hc (fun b => gathS (split b)) (fun b _ => yY _)
 unfold putsS at hf
 rw [spec_forest (sortC cmpT (brs t)) (fun b => gathS (split b)) (fun b _ => rfl)] at hf
 exact hf
theorem putM_is (L:List (Spl × Int)) (P:List (Spl × Int)) {M:List Spl} (hL:IsN cmpS L M) (hP:∀ p ∈ P,1 ≤ p.2):IsN cmpS (P.foldl (fun s p => putN cmpS s p.2 (rootS p.1)) L) (M ++ expN (P.map fun p => (rootS p.1,p.2))):=by
 have h2:=IsN.puts xC (P.map fun p => (rootS p.1,p.2)) hL (fun p hp => by
  obtain ⟨q,hq,rfl⟩:=List.mem_map.1 hp
  exact hP q hq)
 rw [List.foldl_map] at h2
 exact h2
theorem canon_brs {t:List Int} (h:qZ t) (hc:canon t = t):∀ b ∈ brs t,canon b = b:=fun b hb => by
 have hl:∀ c ∈ sortC cmpD ((brs t).map canon),qZ c:=fun c hc' => by
  rw [yW,List.mem_map] at hc'
  obtain ⟨x,hx,rfl⟩:=hc'
  exact xG (jC h x hx)
 have e:=kY h
 rw [hc] at e
 rw [e,wP hl,yW,List.mem_map] at hb
 obtain ⟨x,hx,rfl⟩:=hb
 exact wV (jC h x hx)
theorem root_sm {s:Spl} {n:Nat} (h:yS n s) (hn:n ≤ 8):SmS (rootS s):=by
 have h1:=(h.ha (by omega)).1.sm
 have hl:qZ (qB s.2):=vU fun b hb => (h.1 b (by simp [hb])).1
 refine ⟨h1,by simp [rootS],?_⟩
 show (canon (qB s.2)).length + 0 ≤ 100
 rw [wX hl,xS]
 have:=h.2;omega
theorem a_l05Tree:∀ (n:Nat),n ≤ 8→∀ t:List Int,qZ t→canon t = t→t.length ≤ n→AFn Tryz.prog 132 [eL t] (· = [.val (.sl 3 ((gathS (split t)).map eSp))])
 | 0,_,t,h,_,hn => by have:=h.pos;omega
 | n + 1,hn8,t,h,hc,hn => by
  have hsb:=kG h
  have hperm:=jH (c:=cmpT) (brs t)
  have hlev:∀ b ∈ sortC cmpT (brs t),qZ b:=fun b hb => jC h b (yW.1 hb)
  have hs8:qQ (sortC cmpT (brs t)) ≤ 7:=by rw [vD hperm];omega
  have hbr:=AFn.valT (a_l03Branches t h hc (by omega))
  have hfo:=a_l05Forest_of n (fun b h1 h2 h3 => a_l05Tree n (by omega) b h1 h2 h3) (sortC cmpT (brs t)) (fun b hb => by
   have hb':=yW.1 hb
   exact ⟨jC h b hb',canon_brs h hc b hb',by have:=yN h b hb';omega⟩) (by omega)
  have how:=AFn.valT (a_l01Own t (by omega))
  have hgood:=kI (kD hlev)
  have hlen:=qZ0 hlev (by omega)
  have hfin:=tree_sum h hc
  have hBl:(gathS (prodS ((sortC cmpT (brs t)).map split))).length ≤ 256:=by have:=(yY (prodS ((sortC cmpT (brs t)).map split))).len;rw [List.length_map] at this;omega
  have hBe:=gath_exp (prodS ((sortC cmpT (brs t)).map split))
  obtain ⟨B,hB⟩:∃ B,B = gathS (prodS ((sortC cmpT (brs t)).map split)):=⟨_,rfl⟩
  rw [← hB] at hgood hfin hfo hBl hBe
  have hone:IsN cmpS [((([t],[]):Spl),1)] [([t],[])]:=⟨⟨by simp,by simp⟩,List.Perm.refl _⟩
  have hF:∀ j,((B.take j).foldl (fun s p => putN cmpS s p.2 (rootS p.1)) [(([t],[]),1)]).length ≤ 1000000∧∀ q ∈ (B.take j).foldl (fun s p => putN cmpS s p.2 (rootS p.1)) [(([t],[]),1)],(1 ≤ q.2∧q.2 ≤ 1000000000)∧SmS q.1:=fun j => by
   have hP:∀ p ∈ B.take j,1 ≤ p.2∧p.2 ≤ 256∧SmS (rootS p.1):=fun p hp => by
    obtain ⟨g1,g2,g3⟩:=hgood p (List.mem_of_mem_take hp)
    exact ⟨g1,by omega,root_sm g3 (by omega)⟩
   have hi:=putM_is _ (B.take j) hone (fun p hp => (hP p hp).1)
   have hlt:(expN ((B.take j).map fun p => (rootS p.1,p.2))).length ≤ 256 * 256:=by
    have key:∀ (X:List (Spl × Int)),(∀ p ∈ X,p.2 ≤ 256)→(expN (X.map fun p => (rootS p.1,p.2))).length ≤ 256 * X.length:=by
     intro X
     induction X with
     | nil => intro _;simp [expN]
     | cons x X ih =>
      intro hx
      have h1:=ih (fun p hp => hx p (by simp [hp]))
      have h2:=hx x (by simp)
      rw [List.map_cons,yK,List.length_append,List.length_replicate,List.length_cons,Nat.mul_succ]
      show x.2.toNat + _ ≤ _
      omega
    have h1:=key (B.take j) (fun p hp => (hP p hp).2.1)
    have h2:(B.take j).length ≤ 256:=by rw [List.length_take];omega
    exact Nat.le_trans h1 (Nat.mul_le_mul_left _ h2)
   have hM:([(([t],[]):Spl)] ++ expN ((B.take j).map fun p => (rootS p.1,p.2))).length ≤ 1 + 256 * 256:=by rw [List.length_append,List.length_singleton];omega
   refine ⟨Nat.le_trans hi.len (by omega),fun q hq => ?_⟩
   have hcq:=hi.cnt q hq
   refine ⟨⟨hcq.1,by omega⟩,?_⟩
   have hk:=hi.key q hq
   rcases List.mem_append.1 hk with hk|hk
   ·rw [List.mem_singleton.1 hk]
    exact ⟨⟨by simp,by show t.length + 0 ≤ 100;omega⟩,by show SmF [];decide⟩
   ·obtain ⟨r,hr,e⟩:=expN_mem hk
    obtain ⟨p,hp,rfl⟩:=List.mem_map.1 hr
    rw [← e]
    exact (hP p hp).2.2
  simp only [eL,eLL] at hbr hfo how
  refine AFn.of_runs (qX 41) Tryz.func132 rfl rfl rfl gz ?_
  have hres:Tryz.f132.results.toList = [.tmp 2]:=rfl
  have hrts:Tryz.f132.resultTypes.toList = [33]:=rfl
  simp only [qU,qT,eL,eI,eLL,eB,Nat.zero_add,Nat.reduceAdd]
  intro M
  refine qJ.of ?_
  refine gw45 (kk 6) ?_
  refine qJ.regCut (qX 41) (Tab.none.at' 133 how) 3 (s1:=?_) ?_ ?_
  rotate_left 1
  focus (refine Work.mk ?_;simp only [Zg,Zi,seval];with_reducible rfl)
  simp only [List.toList_toArray,List.drop_succ_cons,List.drop_zero]
  refine qW.frzs [11] ?_
  refine qW.opsT (qX 41) (T:=Tab.none) (s':=?_) ?_ ?_
  rotate_left 1
  focus (simp only [Zg,Zi,seval];with_reducible rfl)
  refine gw29 (kk 6) Y0 ?_
  refine qJ.frz 4 ?_
  refine qJ.fits (s0:=⟨[(3,.c (.val (.sl 3 (B.map eSp)))),(4,.c (.val (.sl 3 [[.sl 1 [[.sl 1 (t.map eI)]],.sl 1 [],.int 1]]))),(5,.c (.val (.int 0)))],[]⟩) ?_ ?_
  ·exact gw36
  refine qJ.loop (β:=Nat) (γ:=Unit) (fun j => ⟨[(3,.c (.val (.sl 3 (B.map eSp)))),(4,.c (.val (.sl 3 (((B.take j).foldl (fun s p => putN cmpS s p.2 (rootS p.1)) [(([t],[]),1)]).map eSp)))),(5,.c (.val (.int j)))],[]⟩) (fun j => j ≤ B.length) (fun j => B.length - j)
   (fun _ => ⟨[(4,.c (.val (.sl 3 ((gathS (split t)).map eSp))))],[]⟩) (fun _ => True) 0 (Nat.zero_le _) ?_ ?_ ?_
  ·exact gw46
  ·intro i hi
   have hi:i ≤ B.length:=hi
   have hw:=qD (n:=i) (by omega)
   by_cases h':i < B.length
   ·have i1:((i:Int) < (B.length:Int)) = True:=eq_true (by omega)
    have i2:((0:Int) ≤ (i:Int)) = True:=eq_true (by omega)
    obtain ⟨z,hz⟩:∃ z,z = B[i]:=⟨_,rfl⟩
    have hgz:=hgood B[i] (List.getElem_mem _)
    rw [← hz] at hgz
    obtain ⟨g1,g2,g3⟩:=hgz
    have hgz:=(g3.ha (by omega)).2.sm
    have hlz:∀ b ∈ z.1.2,qZ b:=fun b hb => (g3.1 b (by simp [hb])).1
    have hroot:=AFn.valT (a_l03Root z.1.2 hgz hlz)
    have hst:(B.take (i + 1)).foldl (fun s p => putN cmpS s p.2 (rootS p.1)) [(([t],[]),1)] = putN cmpS ((B.take i).foldl (fun s p => putN cmpS s p.2 (rootS p.1)) [(([t],[]),1)]) z.2 (rootS z.1):=by
     rw [hz,List.take_succ_eq_append_getElem h',List.foldl_append];rfl
    have hFi:=hF i
    obtain ⟨K,hK⟩:∃ K,K = (B.take i).foldl (fun s p => putN cmpS s p.2 (rootS p.1)) [(([t],[]),1)]:=⟨_,rfl⟩
    rw [← hK] at hst hFi ⊢
    have hput:=a_l05Put K z.2 (rootS z.1) hFi.1 hFi.2 ⟨g1,by omega⟩ (root_sm g3 (by omega))
    have hg:(B.map eSp)[i]? = some [.sl 1 (z.1.1.map eL),.sl 1 (z.1.2.map eL),.int z.2]:=by rw [qE h',hz];rfl
    have hle:(B.map eSp).length = B.length:=List.length_map _
    simp only [eLL,rootS,eSp,eL,List.map_cons,List.map_nil] at hroot hput
    refine gw47 (kk 6) (Y5 i1 i2 hg hw hle) ?_
    refine qY.on (i + 1) ⟨h',by omega⟩ ?_
    rw [hst]
    exact gw48
   ·have i1:((i:Int) < (B.length:Int)) = False:=eq_false (by omega)
    obtain rfl:i = B.length:=by omega
    rw [List.take_length,hfin]
    refine gw34 (kk 6) i1 ?_
    refine qY.out () trivial ?_
    exact gw6 Y0
  ·rintro _ _
   refine gw29 (kk 6) Y0 ?_
   exact gw8
end
section
theorem tmod_mP (n:Int):((n.tmod 10007) + 10007).tmod 10007 = mP n:=by
 have h1:n.tmod 10007 = if 0 ≤ n then n % 10007 else -((-n) % 10007):=by
  split
  ·rename_i h;exact Int.tmod_eq_emod_of_nonneg h
  ·rename_i h
   have:=Int.neg_tmod (-n) 10007
   rw [Int.neg_neg] at this
   rw [this,Int.tmod_eq_emod_of_nonneg (by omega)]
 rw [h1]
 unfold mP
 split
 ·rw [Int.tmod_eq_emod_of_nonneg (by omega)];omega
 ·rw [Int.tmod_eq_emod_of_nonneg (by omega)];omega
theorem tmod_bd (n:Int):-10007 < n.tmod 10007∧n.tmod 10007 < 10007:=by
 have h1:n.tmod 10007 = if 0 ≤ n then n % 10007 else -((-n) % 10007):=by
  split
  ·rename_i h;exact Int.tmod_eq_emod_of_nonneg h
  ·rename_i h
   have:=Int.neg_tmod (-n) 10007
   rw [Int.neg_neg] at this
   rw [this,Int.tmod_eq_emod_of_nonneg (by omega)]
 rw [h1];split <;> omega
theorem z10007:((10007:Int) = 0) = False:=eq_false (by decide)
theorem a_num (n:Int):AFn Tryz.prog 92 [eI n] (· = [.val (.int (mP n))]):=by
 have hb:=tmod_bd n
 have hw:w64 (n.tmod 10007 + 10007) = n.tmod 10007 + 10007:=qL (by omega)
 rw [← tmod_mP n]
 refine AFn.of_runs (qX 7) Tryz.func92 rfl rfl rfl gz ?_
 have hres:Tryz.f92.results.toList = [.tmp 2]:=rfl
 have hrts:Tryz.f92.resultTypes.toList = [2]:=rfl
 simp only [qU,qT,eL,eI,eLL,eB,Nat.zero_add,Nat.reduceAdd]
 intro M
 refine qJ.of ?_
 refine gw49 (kk 3) hw ?_
 exact gw8
theorem a_l01Mod (n:Int):AFn Tryz.prog 99 [eI n] (· = [.val (.int (mP n))]):=by
 have hb:=tmod_bd n
 have hw:w64 (n.tmod 10007 + 10007) = n.tmod 10007 + 10007:=qL (by omega)
 rw [← tmod_mP n]
 refine AFn.of_runs (qX 7) Tryz.func99 rfl rfl rfl gz ?_
 have hres:Tryz.f99.results.toList = [.tmp 2]:=rfl
 have hrts:Tryz.f99.resultTypes.toList = [2]:=rfl
 simp only [qU,qT,eL,eI,eLL,eB,Nat.zero_add,Nat.reduceAdd]
 intro M
 refine qJ.of ?_
 refine gw49 (kk 3) hw ?_
 exact gw8
noncomputable def TMod:Tab Tryz.prog:=Tab.none.add 99 (tab1 codI fun n => some [.val (.int (mP n))]) (yA fun n rs h => by cases h;exact a_l01Mod n)
theorem a_l01Add (a b:Int) (h:-9223372036854775808 ≤ a + b∧a + b ≤ 9223372036854775807):AFn Tryz.prog 162 [eI a,eI b] (· = [.val (.int (mP (a + b)))]):=by
 have hw:=qL h
 refine AFn.of_runs (qX 9) Tryz.func162 rfl rfl rfl gz ?_
 have hres:Tryz.f162.results.toList = [.tmp 4]:=rfl
 have hrts:Tryz.f162.resultTypes.toList = [2]:=rfl
 simp only [qU,qT,eL,eI,eLL,eB,Nat.zero_add,Nat.reduceAdd]
 intro M
 refine qJ.of ?_
 refine gw50 (kk 5) hw ?_
 exact gw8
theorem jI0 (a b:Int) (h:-9223372036854775808 ≤ a * b∧a * b ≤ 9223372036854775807):AFn Tryz.prog 98 [eI a,eI b] (· = [.val (.int (mP (a * b)))]):=by
 have hw:=qL h
 refine AFn.of_runs (qX 9) Tryz.func98 rfl rfl rfl gz ?_
 have hres:Tryz.f98.results.toList = [.tmp 4]:=rfl
 have hrts:Tryz.f98.resultTypes.toList = [2]:=rfl
 simp only [qU,qT,eL,eI,eLL,eB,Nat.zero_add,Nat.reduceAdd]
 intro M
 refine qJ.of ?_
 refine gw50 (kk 5) hw ?_
 exact gw8
end
section
section
variable {β:Type} {S:Rep β} {w:World}
end
abbrev RPart:Rep (Int × List (List Int)):=RP RI (RS (RS RI))
end
section
section
variable {β:Type} {S:Rep β} {w:World}
end
end
section
section
variable {β:Type} {S:Rep β} {w:World}
end
def szN:List (Int × List (List Int))→Nat
 | [] => 0
 | p :: ps => (p.2.length + qQ p.2) + szN ps
def szP (e:List (Int × List (List Int))):Prop:=e.length + szN e ≤ 1048576
theorem szN_mem:∀ {e:List (Int × List (List Int))} {p:Int × List (List Int)},p ∈ e→p.2.length + qQ p.2 ≤ szN e
 | q :: e,p,h => by
  rcases List.mem_cons.1 h with rfl|h
  ·unfold szN;omega
  ·have:=szN_mem h;unfold szN;omega
theorem tPartI:ST Tryz.prog 50 71 (.agg #[.int .i64 0,.slice none 0 0]) 2 32:=ST.mk' (by kernel_rfl) (by kernel_rfl) rfl (by decide)
end
section
def ePt (x:Int × List (List Int)):List D:=[.int x.1,.sl 1 (x.2.map eL)]
def codPt:Cod (Int × List (List Int)):=codP 1 codI codLL (fun _ => rfl)
theorem vO (xs:List (Int × List (List Int))):(codS 2 codPt).d [.sl 2 (xs.map ePt)] = some xs:=(codS 2 codPt).de xs
end
section
noncomputable def TPut:Tab Tryz.prog :=
 ((Tab.none.add 136 (tab2 codLL codLL fun f g => if SmF f∧SmF g then some [.val (.int (sgn (cmpF f g)))] else none) (yH fun f g rs h => by split at h;cases h;rename_i hs;exact a_l06Order f g (by have:=hs.1.2;omega) (by have:=hs.2.2;omega) (by have:=hs.1.1;omega) (by have:=hs.2.1;omega);cases h)).add
   67 (tab1 codLL fun f => if SmF f then some [.own 1 (f.map eL) false] else none) (yA fun f rs h => by split at h;cases h;rename_i hs;exact yT0 f (by have:=hs.1;omega) hs.b;cases h)).add
   162 (tab2 codI codI fun a b => if -9223372036854775808 ≤ a + b∧a + b ≤ 9223372036854775807 then some [.val (.int (mP (a + b)))] else none) (yH fun a b rs h => by split at h;cases h;rename_i hs;exact a_l01Add a b hs;cases h)
theorem sgn_lt {n:Int} (h:n < 0):sgn n = -1:=by unfold sgn;rw [if_pos h]
theorem sgn_eq {n:Int} (h:n = 0):sgn n = 0:=by subst h;rfl
theorem sgn_gt {n:Int} (h:0 < n):sgn n = 1:=by unfold sgn;rw [if_neg (by omega),if_neg (by omega)]
structure PutI (e:Elt) (k:Int) (f:List (List Int)) (x:Nat × Bool × Elt):Prop where
 le:x.1 ≤ e.length
 no:x.2.1 = false→x.2.2 = e.take x.1∧∀ q ∈ e.take x.1,0 < cmpF f q.2
 yes:x.2.1 = true→x.2.2 ++ e.drop x.1 = putS cmpF e k f
 len:x.2.2.length ≤ x.1 + 1
theorem putS_at {e:Elt} {k:Int} {f:List (List Int)} (hk:k ≠ 0) {i:Nat} (h:i < e.length) (hlow:∀ q ∈ e.take i,0 < cmpF f q.2):putS cmpF e k f = e.take i ++ putS cmpF (e[i] :: e.drop (i + 1)) k f:=by
 have h1:=yF0 hk (e.drop i) hlow
 rw [List.take_append_drop,List.drop_eq_getElem_cons h] at h1
 exact h1
theorem a_l06Put (e:Elt) (k:Int) (f:List (List Int)) (hl:e.length ≤ 1000000) (he:∀ q ∈ e,(1 ≤ q.1∧q.1 < 10007)∧SmF q.2) (hk:0 ≤ k∧k < 10007) (hf:SmF f):AFn Tryz.prog 137 [[.sl 2 (e.map ePt)],eI k,eLL f] (· = [.val (.sl 2 ((putS cmpF e k f).map ePt))]):=by
 by_cases hk0:k = 0
 ·subst hk0
  rw [putS_zero]
  refine AFn.of_runs (qX 68) Tryz.func137 rfl rfl rfl gz ?_
  have hres:Tryz.f137.results.toList = [.tmp 6]:=rfl
  have hrts:Tryz.f137.resultTypes.toList = [50]:=rfl
  simp only [qU,qT,eL,eI,eLL,eB,Nat.zero_add,Nat.reduceAdd]
  intro M
  refine qJ.of ?_
  refine gw7 (kk 12) Y0 ?_
  exact gw8
 refine AFn.val1 ?_
 have hkb:(k == 0) = false:=beq_eq_false_iff_ne.2 hk0
 have hff:=eq_true hf
 refine AFn.of_runs (qX 68) Tryz.func137 rfl rfl rfl gz ?_
 have hres:Tryz.f137.results.toList = [.tmp 6]:=rfl
 have hrts:Tryz.f137.resultTypes.toList = [50]:=rfl
 simp only [qU,qT,eL,eI,eLL,eB,Nat.zero_add,Nat.reduceAdd]
 intro M
 refine qJ.of ?_
 refine gw7 (kk 12) hkb ?_
 refine qJ.loop (β:=Nat × Bool × Elt) (γ:=Bool × Elt) (fun x => ⟨[(0,.c (.val (.sl 2 (e.map ePt)))),(1,.c (.val (.int k))),(2,.c (.val (.sl 1 (f.map eL)))),(7,.c (.own 7 x.2.2.length)),(8,.c (.val (.bool x.2.1))),(9,.c (.val (.int x.1)))],[(7,.row 2 (x.2.2.map ePt) false)]⟩) (PutI e k f) (fun x => e.length - x.1)
  (fun x => ⟨[(0,.c (.val (.sl 2 (e.map ePt)))),(1,.c (.val (.int k))),(2,.c (.val (.sl 1 (f.map eL)))),(7,.c (.own 7 x.2.length)),(8,.c (.val (.bool x.1)))],[(7,.row 2 (x.2.map ePt) false)]⟩) (fun x => PutI e k f (e.length,x)) (0,false,[]) ⟨Nat.zero_le _,fun _ => ⟨rfl,by simp⟩,(fun h => nomatch h),Nat.zero_le _⟩ ?_ ?_ ?_
 ·exact gw30
 ·rintro ⟨i,d,o⟩ ⟨hi,hno,hyes,hlen⟩
  simp only at hi hno hyes hlen ⊢
  have hw:=qD (n:=i) (by omega)
  have q1:=jW (n:=o.length + 1) (by omega)
  have q2:=jZ (n:=o.length + 1) (c:=32) (by omega) (by omega)
  have q3:=jW (n:=o.length + 1 + 1) (by omega)
  have q4:=jZ (n:=o.length + 1 + 1) (c:=32) (by omega) (by omega)
  by_cases h:i < e.length
  ·have i1:((i:Int) < (e.length:Int)) = True:=eq_true (by omega)
   have i2:((0:Int) ≤ (i:Int)) = True:=eq_true (by omega)
   obtain ⟨z,hz⟩:∃ z,z = e[i]:=⟨_,rfl⟩
   obtain ⟨⟨hz1,hz2⟩,hz3⟩:=he e[i] (List.getElem_mem _)
   have hg:(e.map ePt)[i]? = some [.int z.1,.sl 1 (z.2.map eL)]:=by rw [qE h,hz];rfl
   have hdr:e.drop i = z :: e.drop (i + 1):=by rw [hz];exact List.drop_eq_getElem_cons h
   have htk:e.take (i + 1) = e.take i ++ [z]:=by rw [hz];exact List.take_succ_eq_append_getElem h
   rw [← hz] at hz1 hz2 hz3
   have hzz:=eq_true hz3
   have hz0:(z.1 != 0) = true:=bne_iff_ne.2 (by omega)
   cases d with
   | true =>
    refine gw51 (kk 12) (Y7 i1 i2 hg hw hz0 q1 q2) ?_
    refine qY.on (i + 1,true,o ++ [z]) ?_ ?_
    refine ⟨⟨h,(fun h => nomatch h),fun _ => ?_,?_⟩,?_⟩
    ·rw [← hyes rfl,hdr];simp
    ·simp;omega
    ·show e.length - (i + 1) < e.length - i;omega
    ·exact gw52
   | false =>
    obtain ⟨ho,hlow⟩:=hno rfl
    have hpa:=putS_at hk0 h hlow
    rw [← hz] at hpa
    rcases Int.lt_trichotomy (cmpF f z.2) 0 with hc|hc|hc
    ·have hs:=sgn_lt hc
     have hp:putS cmpF e k f = o ++ [(k,f)] ++ [z] ++ e.drop (i + 1):=by
      rw [hpa,ho];unfold putS;rw [if_neg hk0,if_pos hc];simp
     refine gw53 (kk 12) (Y12 i1 i2 hg hw hz0 hs hff hzz q1 q2 q3 q4) ?_
     refine qY.on (i + 1,true,o ++ [(k,f)] ++ [z]) ?_ ?_
     refine ⟨⟨h,(fun h => nomatch h),fun _ => hp.symm,?_⟩,?_⟩
     ·have:o.length = i:=by rw [ho,List.length_take];omega
      simp;omega
     ·show e.length - (i + 1) < e.length - i;omega
     ·exact gw52
    ·have hs:=sgn_eq hc
     have hab:(-9223372036854775808 ≤ z.1 + k∧z.1 + k ≤ 9223372036854775807) = True:=eq_true (by omega)
     by_cases hm:mP (z.1 + k) = 0
     ·have hmb:(mP (z.1 + k) == 0) = true:=beq_iff_eq.2 hm
      have hp:putS cmpF e k f = o ++ e.drop (i + 1):=by
       rw [hpa,ho];unfold putS;rw [if_neg hk0,if_neg (by omega),if_pos hc,if_pos hm]
      refine gw51 (kk 12) (Y11 i1 i2 hg hw hm hs hff hzz hab q1 q2) ?_
      refine qY.on (i + 1,true,o) ?_ ?_
      refine ⟨⟨h,(fun h => nomatch h),fun _ => hp.symm,?_⟩,?_⟩
      ·show o.length ≤ i + 1 + 1;omega
      ·show e.length - (i + 1) < e.length - i;omega
      ·exact gw54 Y0
     ·have hmb:(mP (z.1 + k) != 0) = true:=bne_iff_ne.2 hm
      have hp:putS cmpF e k f = o ++ [(mP (z.1 + k),z.2)] ++ e.drop (i + 1):=by
       rw [hpa,ho];unfold putS;rw [if_neg hk0,if_neg (by omega),if_pos hc,if_neg hm];simp
      refine gw51 (kk 12) (Y11 i1 i2 hg hw hmb hs hff hzz hab q1 q2) ?_
      refine qY.on (i + 1,true,o ++ [(mP (z.1 + k),z.2)]) ?_ ?_
      refine ⟨⟨h,(fun h => nomatch h),fun _ => hp.symm,?_⟩,?_⟩
      ·simp;omega
      ·show e.length - (i + 1) < e.length - i;omega
      ·exact gw52
    ·have hs:=sgn_gt hc
     refine gw51 (kk 12) (Y10 i1 i2 hg hw hz0 hs hff hzz q1 q2) ?_
     refine qY.on (i + 1,false,o ++ [z]) ?_ ?_
     refine ⟨⟨h,fun _ => ⟨by rw [htk,ho],?_⟩,(fun h => nomatch h),?_⟩,?_⟩
     ·intro q hq
      have hq:q ∈ e.take (i + 1):=hq
      rw [htk,List.mem_append,List.mem_singleton] at hq
      rcases hq with hq|rfl
      ·exact hlow q hq
      ·exact hc
     ·simp;omega
     ·show e.length - (i + 1) < e.length - i;omega
     ·exact gw52
  ·have i1:((i:Int) < (e.length:Int)) = False:=eq_false (by omega)
   obtain rfl:i = e.length:=by omega
   refine gw5 (kk 12) i1 ?_
   refine qY.out (d,o) ⟨Nat.le_refl _,hno,hyes,hlen⟩ ?_
   exact gw6 Y0
 ·rintro ⟨d,o⟩ ⟨_,hno,hyes,hlen⟩
  simp only at hno hyes hlen ⊢
  have q1:=jW (n:=o.length + 1) (by omega)
  have q2:=jZ (n:=o.length + 1) (c:=32) (by omega) (by omega)
  cases d with
  | true =>
   have hp:putS cmpF e k f = o:=by rw [← hyes rfl];simp
   rw [hp]
   refine gw7 (kk 12) Y0 ?_
   exact gw8
  | false =>
   obtain ⟨ho,hlow⟩:=hno rfl
   have hp:putS cmpF e k f = o ++ [(k,f)]:=by
    have h1:=yF0 hk0 [] hlow
    rw [List.append_nil,List.take_length] at h1
    rw [h1,ho,List.take_length]
    unfold putS;rw [if_neg hk0]
   rw [hp]
   refine gw55 (kk 12) (Y3 hff q1 q2) ?_
   exact gw56
end
section
def OkE (e:Elt):Prop:=∀ q ∈ e,(1 ≤ q.1∧q.1 < 10007)∧SmF q.2
theorem OkE.nil:OkE []:=fun q hq => nomatch hq
theorem putS_okE {k:Int} {f:List (List Int)} (hk:0 ≤ k∧k < 10007) (hf:SmF f):∀ {e:Elt},OkE e→OkE (putS cmpF e k f)
 | [],_ => by
  unfold putS
  split
  ·exact OkE.nil
  ·intro q hq
   simp only [List.mem_singleton] at hq
   subst hq
   exact ⟨⟨by simp only;omega,hk.2⟩,hf⟩
 | (a,y) :: L,he => by
  obtain ⟨⟨ha1,ha2⟩,hy⟩:=he (a,y) (by simp)
  have hL:OkE L:=fun q hq => he q (by simp [hq])
  unfold putS
  split
  ·exact he
  ·split
   ·intro q hq
    rcases List.mem_cons.1 hq with rfl|hq
    ·exact ⟨⟨by simp only;omega,hk.2⟩,hf⟩
    ·exact he q hq
   ·split
    ·split
     ·exact hL
     ·rename_i h0
      intro q hq
      rcases List.mem_cons.1 hq with rfl|hq
      ·have:=jD (a + k)
       exact ⟨⟨by simp only;omega,this.2⟩,hy⟩
      ·exact hL q hq
    ·intro q hq
     rcases List.mem_cons.1 hq with rfl|hq
     ·exact ⟨⟨ha1,ha2⟩,hy⟩
     ·exact putS_okE hk hf hL q hq
theorem putS_len (k:Int) (f:List (List Int)):∀ (e:Elt),(putS cmpF e k f).length ≤ e.length + 1
 | [] => by unfold putS;split <;> simp
 | (a,y) :: L => by
  have ih:=putS_len k f L
  unfold putS
  repeat' split
  all_goals simp only [List.length_cons] at ih ⊢
  all_goals omega
theorem addS_snoc (d M:Elt) (q:Int × List (List Int)):addS cmpF d (M ++ [q]) = putS cmpF (addS cmpF d M) q.1 q.2:=by
 unfold addS;rw [List.foldl_append];rfl
theorem wU:∀ {M d:Elt},OkE d→(∀ q ∈ M,(0 ≤ q.1∧q.1 < 10007)∧SmF q.2)→OkE (addS cmpF d M)
 | [],d,hd,_ => hd
 | q :: M,d,hd,hM => by
  obtain ⟨h1,h2⟩:=hM q (by simp)
  exact wU (M:=M) (putS_okE h1 h2 hd) (fun z hz => hM z (by simp [hz]))
theorem vI:∀ (M d:Elt),(addS cmpF d M).length ≤ d.length + M.length
 | [],d => Nat.le_refl _
 | q :: M,d => by
  have h1:=vI M (putS cmpF d q.1 q.2)
  have h2:=putS_len q.1 q.2 d
  show (addS cmpF (putS cmpF d q.1 q.2) M).length ≤ _
  simp only [List.length_cons];omega
def mulE (k:Int) (e:Elt):Elt:=e.map fun p => (mP (k * p.1),p.2)
theorem mulE_ok {k:Int} {e:Elt} (he:OkE e):∀ q ∈ mulE k e,(0 ≤ q.1∧q.1 < 10007)∧SmF q.2:=fun q hq => by
 obtain ⟨p,hp,rfl⟩:=List.mem_map.1 hq
 exact ⟨jD _,(he p hp).2⟩
theorem yE0 {a b:Int} (ha:0 ≤ a∧a < 10007) (hb:0 ≤ b∧b < 10007):0 ≤ a * b∧a * b ≤ 100140049:=by
 refine ⟨Int.mul_nonneg ha.1 hb.1,?_⟩
 have h1:=Int.mul_le_mul (show a ≤ 10007 by omega) (show b ≤ 10007 by omega) hb.1 (by decide)
 omega
theorem a_l06Add (d e:Elt) (k:Int) (hd:OkE d) (he:OkE e) (hk:0 ≤ k∧k < 10007) (hl:d.length + e.length ≤ 1000000):AFn Tryz.prog 71 [[.sl 2 (d.map ePt)],[.sl 2 (e.map ePt)],eI k] (· = [.val (.sl 2 ((addS cmpF d (mulE k e)).map ePt))]):=by
 have hml:(mulE k e).length = e.length:=by unfold mulE;simp
 refine AFn.of_runs (qX 31) Tryz.func71 rfl rfl rfl gz ?_
 have hres:Tryz.f71.results.toList = [.tmp 6]:=rfl
 have hrts:Tryz.f71.resultTypes.toList = [50]:=rfl
 simp only [qU,qT,eL,eI,eLL,eB,Nat.zero_add,Nat.reduceAdd]
 intro M
 refine qJ.of ?_
 refine gw29 (kk 9) Y0 ?_
 refine qJ.loop (β:=Nat) (γ:=Unit) (fun i => ⟨[(1,.c (.val (.sl 2 (e.map ePt)))),(2,.c (.val (.int k))),(7,.c (.val (.sl 2 ((addS cmpF d ((mulE k e).take i)).map ePt)))),(8,.c (.val (.int i)))],[]⟩) (fun i => i ≤ e.length) (fun i => e.length - i)
  (fun _ => ⟨[(7,.c (.val (.sl 2 ((addS cmpF d (mulE k e)).map ePt))))],[]⟩) (fun _ => True) 0 (Nat.zero_le _) ?_ ?_ ?_
 ·rw [List.take_zero,show addS cmpF d [] = d from rfl]
  exact gw6 Y0
 ·intro i hi
  have hi:i ≤ e.length:=hi
  have hw:=qD (n:=i) (by omega)
  by_cases h:i < e.length
  ·have i1:((i:Int) < (e.length:Int)) = True:=eq_true (by omega)
   have i2:((0:Int) ≤ (i:Int)) = True:=eq_true (by omega)
   obtain ⟨z,hz⟩:∃ z,z = e[i]:=⟨_,rfl⟩
   obtain ⟨⟨hz1,hz2⟩,hz3⟩:=he e[i] (List.getElem_mem _)
   have hg:(e.map ePt)[i]? = some [.int z.1,.sl 1 (z.2.map eL)]:=by rw [qE h,hz];rfl
   rw [← hz] at hz1 hz2 hz3
   have hm:=jI0 k z.1 (by have:=yE0 hk ⟨show 0 ≤ z.1 by omega,hz2⟩;omega)
   have hsub:∀ q ∈ (mulE k e).take i,(0 ≤ q.1∧q.1 < 10007)∧SmF q.2:=fun q hq => mulE_ok he q (List.mem_of_mem_take hq)
   have hput:=a_l06Put (addS cmpF d ((mulE k e).take i)) (mP (k * z.1)) z.2 (by
    have:=vI ((mulE k e).take i) d
    rw [List.length_take] at this;omega) (wU hd hsub) (jD _) hz3
   have hst:addS cmpF d ((mulE k e).take (i + 1)) = putS cmpF (addS cmpF d ((mulE k e).take i)) (mP (k * z.1)) z.2:=by
    have hi':i < (mulE k e).length:=by rw [hml];exact h
    have hgm:(mulE k e)[i]'hi' = (mP (k * z.1),z.2):=by rw [hz];exact List.getElem_map _
    rw [List.take_succ_eq_append_getElem hi',addS_snoc,hgm]
   simp only [eI,eLL] at hm hput
   refine gw57 (kk 9) (Y4 i1 i2 hg hw) ?_
   refine qY.on (i + 1) ⟨h,by omega⟩ ?_
   rw [hst]
   exact gw6 Y0
  ·have i1:((i:Int) < (e.length:Int)) = False:=eq_false (by omega)
   obtain rfl:i = e.length:=by omega
   rw [← hml,List.take_length,hml]
   refine gw34 (kk 9) i1 ?_
   refine qY.out () trivial ?_
   exact gw6 Y0
 ·rintro _ _
  refine gw29 (kk 9) Y0 ?_
  exact gw8
def limB (L:Elt):Bool:=decide (L.length ≤ 300∧∀ p ∈ L,qQ p.2 ≤ 8)
noncomputable def TOwn:Tab Tryz.prog :=
 (Tab.none.add 130 (tab1 codLL fun f => some [.val (.int (jF f))]) (yA fun f rs h => by cases h;exact a_l03Nodes f)).add
  67 (tab1 codLL fun f => if SmF f then some [.own 1 (f.map eL) false] else none) (yA fun f rs h => by split at h;cases h;rename_i hs;exact yT0 f (by have:=hs.1;omega) hs.b;cases h)
theorem a_l06Own (e:Elt) (he:OkE e) (hl:e.length ≤ 1000000):∃ b,AFn Tryz.prog 73 [[.sl 2 (e.map ePt)]] (· = [.own 2 ((limS e).1.map ePt) b,.val (.int (limS e).2)]):=by
 refine ⟨!limB e,?_⟩
 unfold limS
 refine AFn.of_runs (qX 41) Tryz.func73 rfl rfl rfl gz ?_
 have hres:Tryz.f73.results.toList = [.tmp 2,.tmp 3]:=rfl
 have hrts:Tryz.f73.resultTypes.toList = [50,2]:=rfl
 simp only [qU,qT,eL,eI,eLL,eB,Nat.zero_add,Nat.reduceAdd]
 intro M
 refine qJ.of ?_
 refine gw29 (kk 6) Y0 ?_
 refine qJ.loop (β:=Nat) (γ:=Unit) (fun i => ⟨[(0,.c (.val (.sl 2 (e.map ePt)))),(4,.c (.own 4 i)),(5,.c (.val (.int i)))],[(4,.row 2 ((e.take i).map ePt) false)]⟩) (fun i => i ≤ e.length∧(0 < i→e.length ≤ 300)∧∀ p ∈ e.take i,qQ p.2 ≤ 8) (fun i => e.length - i)
  (fun _ => ⟨[(4,.c (.own 4 e.length))],[(4,.row 2 (e.map ePt) false)]⟩) (fun _ => limB e = true) 0 ⟨Nat.zero_le _,by omega,by simp⟩ ?_ ?_ ?_
 ·exact gw2
 ·rintro i ⟨hi,h3,h8⟩
  have hw:=qD (n:=i) (by omega)
  have hlt:((e.take i).map ePt).length = i:=by rw [List.length_map,List.length_take];omega
  have q1:=jW (n:=i + 1) (by omega)
  have q2:=jZ (n:=i + 1) (c:=32) (by omega) (by omega)
  by_cases h:i < e.length
  ·have i1:((i:Int) < (e.length:Int)) = True:=eq_true (by omega)
   have i2:((0:Int) ≤ (i:Int)) = True:=eq_true (by omega)
   obtain ⟨z,hz⟩:∃ z,z = e[i]:=⟨_,rfl⟩
   have hg:(e.map ePt)[i]? = some [.int z.1,.sl 1 (z.2.map eL)]:=by rw [qE h,hz];rfl
   have hz3:=(he e[i] (List.getElem_mem _)).2
   rw [← hz] at hz3
   have hzz:=eq_true hz3
   have hnb:jF z.2 = qQ z.2:=kC z.2 (by have:=hz3.2;omega)
   have htk:e.take (i + 1) = e.take i ++ [z]:=by rw [hz];exact List.take_succ_eq_append_getElem h
   by_cases hs:qQ z.2 ≤ 8
   ·have j1:((qQ z.2:Int) > 8) = False:=eq_false (by omega)
    by_cases hn:e.length ≤ 300
    ·have j2:((e.length:Int) > 300) = False:=eq_false (by omega)
     refine gw58 (kk 6) (Y11 i1 i2 hg hnb hzz hw j1 j2 q1 q2 hlt) ?_
     refine qY.on (i + 1) ⟨⟨h,fun _ => hn,fun p hp => ?_⟩,by omega⟩ ?_
     ·rw [htk,List.mem_append,List.mem_singleton] at hp
      rcases hp with hp|rfl
      ·exact h8 p hp
      ·exact hs
     ·rw [htk]
      exact gw54 Y0
    ·have j2:((e.length:Int) > 300) = True:=eq_true (by omega)
     have hno:limB e = false:=decide_eq_false (fun h => hn h.1)
     refine gw58 (kk 6) (Y11 i1 i2 hg hnb hzz hw j1 j2 q1 q2 hlt) ?_
     refine qY.ret ?_
     rw [hno,if_neg (fun h => hn h.1)]
     refine gw29 (kk 6) Y0 ?_
     exact gw59
   ·have j1:((qQ z.2:Int) > 8) = True:=eq_true (by omega)
    have hno':¬ (e.length ≤ 300∧∀ p ∈ e,qQ p.2 ≤ 8):=fun h' => hs (by have:=h'.2 e[i] (List.getElem_mem _);rw [hz];exact this)
    have hno:limB e = false:=decide_eq_false hno'
    refine gw58 (kk 6) (Y10 i1 i2 hg hnb hzz hw j1 q1 q2 hlt) ?_
    refine qY.ret ?_
    rw [hno,if_neg hno']
    refine gw29 (kk 6) Y0 ?_
    exact gw59
  ·have i1:((i:Int) < (e.length:Int)) = False:=eq_false (by omega)
   obtain rfl:i = e.length:=by omega
   rw [List.take_length] at h8 ⊢
   refine gw34 (kk 6) i1 ?_
   refine qY.out () (decide_eq_true ⟨?_,h8⟩) ?_
   ·by_cases h0:0 < e.length
    ·exact h3 h0
    ·omega
   ·exact gw6 Y0
 ·intro _ hyes
  have hyes:limB e = true:=hyes
  rw [hyes,if_pos (of_decide_eq_true hyes)]
  refine gw29 (kk 6) Y0 ?_
  (refine Ends.mk (by simp) (rs:=?_) (ks:=?_) hres hrts ?_ ?_ ?_;rotate_left 2;(focus (simp only [Ze,Zg,Zi,seval,Bool.not_true];with_reducible rfl));(focus simp);focus (first|with_reducible rfl|(simp only [Zv,Bool.not_true];done)))
end
section
theorem szP.at {e:List (Int × List (List Int))} (h:szP e) {i:Nat} (hi:i < e.length):qQ e[i].2 ≤ 1048576∧e[i].2.length ≤ 1048576:=by
 have:=szN_mem (List.getElem_mem hi)
 unfold szP at h
 omega
theorem okP_no1 {e:Elt} {i:Nat} {c:Int} {f:List (List Int)} (h:e.getD i (0,[]) = (c,f)) (hc:isNum c = false ∨ c = 0):okP e i = false:=by
 unfold okP
 rw [h]
 unfold isNum inR at hc
 by_cases h1:1 ≤ c
 ·have h2:¬ c < 10007:=by simp at hc;omega
  rw [decide_eq_false h2,Bool.and_false,Bool.false_and,Bool.false_and]
 ·rw [decide_eq_false h1,Bool.false_and,Bool.false_and,Bool.false_and]
theorem okP_no2 {e:Elt} {i:Nat} {c:Int} {f:List (List Int)} (h:e.getD i (0,[]) = (c,f)) (hc:forB f = false):okP e i = false:=by
 unfold okP;rw [h,hc,Bool.and_false,Bool.false_and]
theorem okP_no3 {e:Elt} {i:Nat} {c:Int} {f g:List (List Int)} {k:Int} (h:e.getD i (0,[]) = (c,f)) (h2:e.getD (i - 1) (0,[]) = (k,g)) (h0:i ≠ 0) (hc:¬ cmpF g f < 0):okP e i = false:=by
 unfold okP;rw [h,h2,decide_eq_false h0,decide_eq_false hc,Bool.or_self,Bool.and_false]
theorem okP_yes {e:Elt} {i:Nat} {c:Int} {f g:List (List Int)} {k:Int} (h:e.getD i (0,[]) = (c,f)) (h2:e.getD (i - 1) (0,[]) = (k,g)) (hn:isNum c = true) (h1:c ≠ 0) (hf:forB f = true) (h0:i = 0 ∨ cmpF g f < 0):okP e i = true:=by
 unfold isNum inR at hn
 simp at hn
 unfold okP
 rw [h,h2,decide_eq_true (show 1 ≤ c by omega),decide_eq_true (show c < 10007 by omega),hf]
 rcases h0 with h0|h0
 ·rw [decide_eq_true h0];rfl
 ·rw [decide_eq_true h0,Bool.or_true];rfl
end
section
theorem a_impl_IsNumber (n:Int):AFn Tryz.prog 86 [eI n] (· = [.val (.bool (isNum n))]):=afn_I_s (v:=.bool _) (enters_of Tryz.func86 rfl rfl) (fun _ _ => jN.2 rfl) (fun w => c_impl_IsNumber n w)
noncomputable def TEl:Tab Tryz.prog :=
 ((Tab.none.add 86 (tab1 codI fun n => some [.val (.bool (isNum n))]) (yA fun n rs h => by cases h;exact a_impl_IsNumber n)).add
   59 (tab1 codLL fun f => if qQ f ≤ 1048576∧f.length ≤ 1048576 then some [.val (.bool (forB f))] else none) (yA fun f rs h => by split at h;cases h;rename_i hs;exact a_impl_IsForest f (by omega) (by omega);cases h)).add
   87 (tab2 codLL codLL fun f g => if qQ f ≤ 1048576∧qQ g ≤ 1048576 then some [.val (.int (cmpF f g))] else none) (yH fun f g rs h => by split at h;cases h;rename_i hs;exact yQ0 f g (by omega) (by omega);cases h)
theorem qL0 (e:Elt) (hsz:szP e):AFn Tryz.prog 32 [[.sl 2 (e.map ePt)]] (· = [.val (.bool (elB e))]):=by
 refine AFn.of_runs (qX 47) Tryz.func32 rfl rfl rfl gz ?_
 have hres:Tryz.f32.results.toList = [.tmp 2]:=rfl
 have hrts:Tryz.f32.resultTypes.toList = [4]:=rfl
 simp only [qU,qT,eL,eI,eLL,eB,Nat.zero_add,Nat.reduceAdd]
 intro M
 refine qJ.of ?_
 have hln:e.length ≤ 1048576:=by unfold szP at hsz;omega
 by_cases h3:e.length ≤ 300
 ·have i8:((e.length:Int) > 300) = False:=eq_false (by omega)
  refine gw60 (kk 11) i8 ?_
  refine qJ.loop (β:=Nat) (γ:=Unit) (fun i => ⟨[(0,.c (.val (.sl 2 (e.map ePt)))),(8,.c (.val (.sl 2 (e.map ePt)))),(9,.c (.val (.int e.length))),(10,.c (.val (.int i)))],[]⟩) (fun i => i ≤ e.length∧(List.range i).all (okP e) = true) (fun i => e.length - i)
   (fun _ => ⟨[],[]⟩) (fun _ => (List.range e.length).all (okP e) = true) 0 ⟨Nat.zero_le _,rfl⟩ ?_ ?_ ?_
  ·exact gw61
  ·rintro i ⟨hi,hall⟩
   have hw:=qD (n:=i) (by omega)
   by_cases h:i < e.length
   ·have i1:((i:Int) < (e.length:Int)) = True:=eq_true (by omega)
    have i2:((0:Int) ≤ (i:Int)) = True:=eq_true (by omega)
    have hs1:=hsz.at h
    obtain ⟨c,f,ht⟩:∃ c f,(c,f) = e[i]:=⟨_,_,rfl⟩
    have hg:(e.map ePt)[i]? = some [.int c,.sl 1 (f.map eL)]:=by rw [qE h,← ht];rfl
    have hgd:e.getD i (0,[]) = (c,f):=by rw [yM h,ht]
    rw [← ht] at hs1
    simp only at hs1
    have s1:=eq_true hs1
    have s1':=eq_true hs1.1
    by_cases hc0:c = 0
    ·have e0:(c == 0) = true:=by rw [hc0];rfl
     have hB:elB e = false:=by unfold elB;rw [kZ h (okP_no1 hgd (.inr hc0)),Bool.and_false]
     rw [hB]
     refine gw62 (kk 11) (Y5 i1 i2 hg hw e0) ?_
     refine qY.ret ?_
     refine gw63 (kk 11) Y0 ?_
     exact gw8
    ·have e0:(c == 0) = false:=beq_eq_false_iff_ne.2 hc0
     by_cases hn:isNum c = true
     ·by_cases hf:forB f = true
      ·by_cases h0:i = 0
       ·have j1:((i:Int) > 0) = False:=eq_false (by omega)
        have hok:okP e i = true:=okP_yes hgd rfl hn hc0 hf (.inl h0)
        refine gw62 (kk 11) (Y9 i1 i2 hg hw e0 hn hf s1 j1) ?_
        refine qY.on (i + 1) ⟨⟨h,wG hall hok⟩,by omega⟩ ?_
        exact gw6 Y0
       ·have j1:((i:Int) > 0) = True:=eq_true (by omega)
        have hw1:w64 ((i:Int) - 1) = ((i - 1:Nat):Int):=by rw [qL (by omega)];omega
        have i3:((0:Int) ≤ ((i - 1:Nat):Int)) = True:=eq_true (by omega)
        have i4:(((i - 1:Nat):Int) < (e.length:Int)) = True:=eq_true (by omega)
        have hs2:=hsz.at (show i - 1 < e.length by omega)
        obtain ⟨k,g,ht2⟩:∃ k g,(k,g) = e[i - 1]:=⟨_,_,rfl⟩
        have hg2:(e.map ePt)[i - 1]? = some [.int k,.sl 1 (g.map eL)]:=by rw [qE (by omega),← ht2];rfl
        have hgd2:e.getD (i - 1) (0,[]) = (k,g):=by rw [yM (by omega),ht2]
        rw [← ht2] at hs2
        simp only at hs2
        have s2:(qQ g ≤ 1048576∧qQ f ≤ 1048576) = True:=eq_true ⟨hs2.1,hs1.1⟩
        by_cases hk:cmpF g f < 0
        ·have hok:okP e i = true:=okP_yes hgd hgd2 hn hc0 hf (.inr hk)
         have k1:(cmpF g f ≥ 0) = False:=eq_false (by omega)
         refine gw62 (kk 11) (Y12 i1 i2 i3 i4 hg hg2 hw hw1 e0 hn hf (Y4 s1 s2 j1 k1)) ?_
         refine qY.on (i + 1) ⟨⟨h,wG hall hok⟩,by omega⟩ ?_
         exact gw6 Y0
        ·have hB:elB e = false:=by unfold elB;rw [kZ h (okP_no3 hgd hgd2 h0 hk),Bool.and_false]
         have k1:(cmpF g f ≥ 0) = True:=eq_true (by omega)
         rw [hB]
         refine gw62 (kk 11) (Y12 i1 i2 i3 i4 hg hg2 hw hw1 e0 hn hf (Y4 s1 s2 j1 k1)) ?_
         refine qY.ret ?_
         refine gw63 (kk 11) Y0 ?_
         exact gw8
      ·have hf:forB f = false:=by simpa using hf
       have hB:elB e = false:=by unfold elB;rw [kZ h (okP_no2 hgd hf),Bool.and_false]
       rw [hB]
       refine gw62 (kk 11) (Y8 i1 i2 hg hw e0 hn hf s1) ?_
       refine qY.ret ?_
       refine gw63 (kk 11) Y0 ?_
       exact gw8
     ·have hn:isNum c = false:=by simpa using hn
      have hB:elB e = false:=by unfold elB;rw [kZ h (okP_no1 hgd (.inl hn)),Bool.and_false]
      rw [hB]
      refine gw62 (kk 11) (Y6 i1 i2 hg hw e0 hn) ?_
      refine qY.ret ?_
      refine gw63 (kk 11) Y0 ?_
      exact gw8
   ·have i1:((i:Int) < (e.length:Int)) = False:=eq_false (by omega)
    obtain rfl:i = e.length:=by omega
    refine gw63 (kk 11) i1 ?_
    refine qY.out () hall ?_
    exact gw6 Y0
  ·rintro _ hall
   have hB:elB e = true:=by unfold elB;rw [hall,decide_eq_true h3];rfl
   rw [hB]
   refine gw63 (kk 11) Y0 ?_
   exact gw8
 ·have i8:((e.length:Int) > 300) = True:=eq_true (by omega)
  have hB:elB e = false:=by unfold elB;rw [decide_eq_false h3,Bool.false_and]
  rw [hB]
  refine gw60 (kk 11) i8 ?_
  exact gw8
end
section
noncomputable def TElS:Tab Tryz.prog :=
 ((Tab.none.add 135 (tab3 codI codI codI fun x y z => some [.val (.bool (inR x y z))]) (tab3_ok fun x y z rs h => by cases h;exact a_spec_l01In x y z)).add
   65 (tab1 codLL fun f => if qQ f ≤ 1048576∧f.length ≤ 1048576 then some [.val (.bool (forB f))] else none) (yA fun f rs h => by split at h;cases h;rename_i hs;exact a_l03Forest f (by omega) (by omega);cases h)).add
   136 (tab2 codLL codLL fun f g => if (qQ f ≤ 1048576∧qQ g ≤ 1048576)∧(f.length ≤ 1048576∧g.length ≤ 1048576) then some [.val (.int (sgn (cmpF f g)))] else none) (yH fun f g rs h => by split at h;cases h;rename_i hs;exact a_l06Order f g (by omega) (by omega) (by omega) (by omega);cases h)
theorem sgn_ge {n:Int}:(sgn n ≥ 0) = (¬ n < 0):=by
 unfold sgn
 by_cases h:n < 0
 ·rw [if_pos h];exact propext ⟨fun h => absurd h (by decide),fun k => absurd h k⟩
 ·rw [if_neg h];split <;> exact propext ⟨fun _ => h,fun _ => by decide⟩
theorem a_l06Is (e:Elt) (hsz:szP e):AFn Tryz.prog 70 [[.sl 2 (e.map ePt)]] (· = [.val (.bool (elB e))]):=by
 refine AFn.of_runs (qX 48) Tryz.func70 rfl rfl rfl gz ?_
 have hres:Tryz.f70.results.toList = [.tmp 2]:=rfl
 have hrts:Tryz.f70.resultTypes.toList = [4]:=rfl
 simp only [qU,qT,eL,eI,eLL,eB,Nat.zero_add,Nat.reduceAdd]
 intro M
 refine qJ.of ?_
 have hln:e.length ≤ 1048576:=by unfold szP at hsz;omega
 refine gw64 (kk 4) Y0 ?_
 refine qJ.loop (β:=Nat) (γ:=Unit) (fun i => ⟨[(0,.c (.val (.sl 2 (e.map ePt)))),(3,.c (.val (.int i)))],[]⟩) (fun i => i ≤ e.length∧(List.range i).all (okP e) = true) (fun i => e.length - i)
  (fun _ => ⟨[(0,.c (.val (.sl 2 (e.map ePt))))],[]⟩) (fun _ => (List.range e.length).all (okP e) = true) 0 ⟨Nat.zero_le _,rfl⟩ ?_ ?_ ?_
 ·exact gw6 Y0
 ·rintro i ⟨hi,hall⟩
  have hw:=qD (n:=i) (by omega)
  by_cases h:i < e.length
  ·have i1:((i:Int) < (e.length:Int)) = True:=eq_true (by omega)
   have i2:((0:Int) ≤ (i:Int)) = True:=eq_true (by omega)
   have hs1:=hsz.at h
   obtain ⟨c,f,ht⟩:∃ c f,(c,f) = e[i]:=⟨_,_,rfl⟩
   have hg:(e.map ePt)[i]? = some [.int c,.sl 1 (f.map eL)]:=by rw [qE h,← ht];rfl
   have hgd:e.getD i (0,[]) = (c,f):=by rw [yM h,ht]
   rw [← ht] at hs1
   simp only at hs1
   have s1:=eq_true hs1
   by_cases hn:inR c 1 10006 = true
   ·have hn1:isNum c = true∧c ≠ 0:=by unfold inR at hn;unfold isNum inR;simp at hn ⊢;omega
    by_cases hf:forB f = true
    ·by_cases h0:i = 0
     ·have j1:((i:Int) > 0) = False:=eq_false (by omega)
      have hok:okP e i = true:=okP_yes hgd rfl hn1.1 hn1.2 hf (.inl h0)
      refine gw65 (kk 4) (Y8 i1 i2 hg hw hn hf s1 j1) ?_
      refine qY.on (i + 1) ⟨⟨h,wG hall hok⟩,by omega⟩ ?_
      exact gw6 Y0
     ·have j1:((i:Int) > 0) = True:=eq_true (by omega)
      have hw1:w64 ((i:Int) - 1) = ((i - 1:Nat):Int):=by rw [qL (by omega)];omega
      have i3:((0:Int) ≤ ((i - 1:Nat):Int)) = True:=eq_true (by omega)
      have i4:(((i - 1:Nat):Int) < (e.length:Int)) = True:=eq_true (by omega)
      have hs2:=hsz.at (show i - 1 < e.length by omega)
      obtain ⟨k,g,ht2⟩:∃ k g,(k,g) = e[i - 1]:=⟨_,_,rfl⟩
      have hg2:(e.map ePt)[i - 1]? = some [.int k,.sl 1 (g.map eL)]:=by rw [qE (by omega),← ht2];rfl
      have hgd2:e.getD (i - 1) (0,[]) = (k,g):=by rw [yM (by omega),ht2]
      rw [← ht2] at hs2
      simp only at hs2
      have s2:((qQ g ≤ 1048576∧qQ f ≤ 1048576)∧(g.length ≤ 1048576∧f.length ≤ 1048576)) = True:=eq_true ⟨⟨hs2.1,hs1.1⟩,hs2.2,hs1.2⟩
      by_cases hk:cmpF g f < 0
      ·have hok:okP e i = true:=okP_yes hgd hgd2 hn1.1 hn1.2 hf (.inr hk)
       have k1:(sgn (cmpF g f) ≥ 0) = False:=by rw [sgn_ge];exact eq_false (fun k => k hk)
       refine gw65 (kk 4) (Y12 i1 i2 i3 i4 hg hg2 hw hw1 hn hf s1 (Y3 s2 j1 k1)) ?_
       refine qY.on (i + 1) ⟨⟨h,wG hall hok⟩,by omega⟩ ?_
       exact gw6 Y0
      ·have hB:elB e = false:=by unfold elB;rw [kZ h (okP_no3 hgd hgd2 h0 hk),Bool.and_false]
       have k1:(sgn (cmpF g f) ≥ 0) = True:=by rw [sgn_ge];exact eq_true hk
       rw [hB]
       refine gw65 (kk 4) (Y12 i1 i2 i3 i4 hg hg2 hw hw1 hn hf s1 (Y3 s2 j1 k1)) ?_
       refine qY.ret ?_
       refine gw66 (kk 4) ?_
       exact gw8
    ·have hf:forB f = false:=by simpa using hf
     have hB:elB e = false:=by unfold elB;rw [kZ h (okP_no2 hgd hf),Bool.and_false]
     rw [hB]
     refine gw65 (kk 4) (Y7 i1 i2 hg hw hn hf s1) ?_
     refine qY.ret ?_
     refine gw66 (kk 4) ?_
     exact gw8
   ·have hn:inR c 1 10006 = false:=by simpa using hn
    have hB:elB e = false:=by
     unfold elB
     rw [kZ h (okP_no1 hgd ?_),Bool.and_false]
     unfold inR at hn
     unfold isNum inR
     simp at hn ⊢
     omega
    rw [hB]
    refine gw65 (kk 4) (Y5 i1 i2 hg hw hn) ?_
    refine qY.ret ?_
    refine gw66 (kk 4) ?_
    exact gw8
  ·have i1:((i:Int) < (e.length:Int)) = False:=eq_false (by omega)
   obtain rfl:i = e.length:=by omega
   refine gw64 (kk 4) i1 ?_
   refine qY.out () hall ?_
   exact gw6 Y0
 ·rintro _ hall
  have hB:elB e = decide ((e.length:Int) ≤ 300):=by
   unfold elB;rw [hall,Bool.and_true]
   exact decide_eq_decide.2 (by omega)
  rw [hB]
  refine gw64 (kk 4) Y0 ?_
  exact gw8
end
section
def cmpTe:Spl→Spl→Int:=pairC cmpF cmpF
theorem yM0:Cmp cmpTe:=pairC_cmp jV jV
def eTe (z:Int × Spl):List D:=[.int z.1,.sl 1 (z.2.1.map eL),.sl 1 (z.2.2.map eL)]
def copP (p:Int × List (List Int)):List (Int × Spl):=(gathS (prodS (p.2.map split))).map fun z => (mP (p.1 * z.2),z.1)
def copM (e:Elt):List (Int × Spl):=e.flatMap copP
def copOf (e:Elt):List (Int × Spl) × Int:=if elB e = true then (if (sumS cmpTe (copM e)).length ≤ 600 then (sumS cmpTe (copM e),0) else ([],3)) else ([],1)
def OkT (L:List (Int × Spl)):Prop:=∀ q ∈ L,(1 ≤ q.1∧q.1 < 10007)∧SmS q.2
theorem putT_len (k:Int) (x:Spl):∀ (e:List (Int × Spl)),(putS cmpTe e k x).length ≤ e.length + 1
 | [] => by unfold putS;split <;> simp
 | (a,y) :: L => by
  have ih:=putT_len k x L
  unfold putS
  repeat' split
  all_goals simp only [List.length_cons] at ih ⊢
  all_goals omega
theorem addT_len:∀ (M d:List (Int × Spl)),(addS cmpTe d M).length ≤ d.length + M.length
 | [],d => Nat.le_refl _
 | q :: M,d => by
  have h1:=addT_len M (putS cmpTe d q.1 q.2)
  have h2:=putT_len q.1 q.2 d
  show (addS cmpTe (putS cmpTe d q.1 q.2) M).length ≤ _
  simp only [List.length_cons];omega
structure PutTI (e:List (Int × Spl)) (k:Int) (x:Spl) (y:Nat × Bool × List (Int × Spl)):Prop where
 le:y.1 ≤ e.length
 no:y.2.1 = false→k ≠ 0∧y.2.2 = e.take y.1∧∀ q ∈ e.take y.1,0 < cmpTe x q.2
 yes:y.2.1 = true→y.2.2 ++ e.drop y.1 = putS cmpTe e k x
 len:y.2.2.length ≤ y.1 + 1
end
section
def Eqm (a b:Int):Prop:=∃ k,a = b + 10007 * k
theorem Eqm.refl (a:Int):Eqm a a:=⟨0,by omega⟩
theorem Eqm.of {a b:Int} (h:a = b):Eqm a b:=h ▸ Eqm.refl a
theorem Eqm.symm {a b:Int}:Eqm a b→Eqm b a:=fun ⟨k,h⟩ => ⟨-k,by omega⟩
theorem Eqm.trans {a b d:Int}:Eqm a b→Eqm b d→Eqm a d:=fun ⟨k,h⟩ ⟨m,h'⟩ => ⟨k + m,by omega⟩
theorem Eqm.add {a b d e:Int}:Eqm a b→Eqm d e→Eqm (a + d) (b + e):=fun ⟨k,h⟩ ⟨m,h'⟩ => ⟨k + m,by omega⟩
theorem Eqm.mulL {a b:Int} (d:Int):Eqm a b→Eqm (d * a) (d * b):=fun ⟨k,h⟩ => ⟨d * k,by rw [h,Int.mul_add,Int.mul_left_comm]⟩
theorem Eqm.mulR {a b:Int} (d:Int):Eqm a b→Eqm (a * d) (b * d):=fun h => by rw [Int.mul_comm a,Int.mul_comm b];exact h.mulL d
theorem eqm_mP (a:Int):Eqm (mP a) a:=⟨-(a / 10007),by unfold mP;omega⟩
theorem Eqm.mP {a b:Int}:Eqm a b→mP a = mP b:=fun ⟨k,h⟩ => by unfold Go.Proofs.YtedgfkpfhonlpaaGreat.mP;omega
section
variable {κ:Type}
def lin (F:κ→Int):List (Int × κ)→Int
 | [] => 0
 | q :: L => q.1 * F q.2 + lin F L
theorem jP (F:κ→Int) (q:Int × κ) (L:List (Int × κ)):lin F (q :: L) = q.1 * F q.2 + lin F L:=rfl
theorem jJ0 (F:κ→Int):∀ (L M:List (Int × κ)),lin F (L ++ M) = lin F L + lin F M
 | [],M => by simp [lin]
 | q :: L,M => by rw [List.cons_append,jP,jP,jJ0 F L M];omega
theorem qS0 {α:Type} (F:κ→Int) (g:α→List (Int × κ)):∀ (L:List α),lin F (L.flatMap g) = (L.map fun a => lin F (g a)).sum
 | [] => rfl
 | a :: L => by rw [List.flatMap_cons,jJ0,qS0 F g L,List.map_cons,List.sum_cons]
theorem lin_sum (F:κ→Int):∀ (L:List (Int × κ)),lin F L = (L.map fun q => q.1 * F q.2).sum
 | [] => rfl
 | q :: L => by rw [jP,lin_sum F L,List.map_cons,List.sum_cons]
theorem qU0 {α:Type} {f g:α→Int}:∀ {L:List α},(∀ a ∈ L,Eqm (f a) (g a))→Eqm (L.map f).sum (L.map g).sum
 | [],_ => Eqm.refl _
 | a :: L,h => by
  rw [List.map_cons,List.map_cons,List.sum_cons,List.sum_cons]
  exact (h a (by simp)).add (qU0 fun b hb => h b (by simp [hb]))
theorem jB0 {F G:κ→Int} {L:List (Int × κ)} (h:∀ q ∈ L,Eqm (F q.2) (G q.2)):Eqm (lin F L) (lin G L):=by
 rw [lin_sum,lin_sum]
 exact qU0 fun q hq => (h q hq).mulL q.1
theorem lin_scale (F:κ→Int) (k:Int):∀ (L:List (Int × κ)),lin (fun x => k * F x) L = k * lin F L
 | [] => by simp [lin]
 | q :: L => by rw [jP,jP,lin_scale F k L,Int.mul_add,Int.mul_left_comm]
theorem lin_map {α:Type} (F:κ→Int) (g:α→κ) (k:Int):∀ (L:List (Int × α)),Eqm (lin F (L.map fun q => (mP (q.1 * k),g q.2))) (k * lin (fun a => F (g a)) L)
 | [] => by simp [lin];exact Eqm.refl _
 | q :: L => by
  rw [List.map_cons,jP,jP,Int.mul_add]
  refine Eqm.add ?_ (lin_map F g k L)
  have h:=(eqm_mP (q.1 * k)).mulR (F (g q.2))
  rw [show q.1 * k * F (g q.2) = k * (q.1 * F (g q.2)) by rw [Int.mul_comm q.1 k,Int.mul_assoc]] at h
  exact h
variable {c:κ→κ→Int} (hc:Cmp c)
def oneS (c:κ→κ→Int) (z x:κ):Int:=if c x z = 0 then 1 else 0
theorem coef_lin (z:κ):∀ (L:List (Int × κ)),coef c L z = lin (oneS c z) L
 | [] => rfl
 | q :: L => by
  rw [yQ,jP,coef_lin z L]
  unfold oneS
  split <;> omega
include hc
theorem lin_putS (F:κ→Int):∀ (L:List (Int × κ)) (k:Int) (x:κ),Eqm (lin F (putS c L k x)) (lin F L + k * F x)
 | [],k,x => by
  unfold putS
  split
  ·rename_i h;subst h;simp [lin];exact Eqm.refl _
  ·refine Eqm.of ?_
   simp only [lin];omega
 | (a,y) :: L,k,x => by
  unfold putS
  split
  ·rename_i h;subst h
   refine Eqm.of ?_
   simp
  ·split
   ·refine Eqm.of ?_
    simp only [lin];omega
   ·split
    ·rename_i h
     obtain rfl:=hc.zero x y h
     have e:Eqm (mP (a + k) * F x) (a * F x + k * F x):=by
      have:=(eqm_mP (a + k)).mulR (F x)
      rwa [Int.add_mul] at this
     obtain ⟨j,hj⟩:=e
     split
     ·rename_i h4
      rw [h4,Int.zero_mul] at hj
      refine ⟨j,?_⟩
      simp only [lin];omega
     ·refine ⟨j,?_⟩
      simp only [lin];omega
    ·have ih:=lin_putS F L k x
     obtain ⟨j,hj⟩:=ih
     refine ⟨j,?_⟩
     simp only [lin];omega
theorem lin_addS (F:κ→Int):∀ (M L:List (Int × κ)),Eqm (lin F (addS c L M)) (lin F L + lin F M)
 | [],L => Eqm.of (by simp [addS,lin])
 | q :: M,L => by
  have h1:=lin_addS F M (putS c L q.1 q.2)
  have h2:=lin_putS hc F L q.1 q.2
  obtain ⟨j,hj⟩:=h1
  obtain ⟨i,hi⟩:=h2
  refine ⟨i + j,?_⟩
  show lin F (addS c (putS c L q.1 q.2) M) = _
  rw [jP];omega
theorem xM (F:κ→Int) (M:List (Int × κ)):Eqm (lin F (sumS c M)) (lin F M):=by
 have:=lin_addS hc F M []
 rwa [show lin F [] = 0 from rfl,Int.zero_add] at this
theorem nf_lin {L M:List (Int × κ)} (hL:NfS c L) (hM:NfS c M) (h:∀ F:κ→Int,Eqm (lin F L) (lin F M)):L = M :=
 NfS.ext hc hL hM (fun z => by rw [coef_lin,coef_lin];exact (h _).mP)
theorem sum_lin {L M:List (Int × κ)} (hL:∀ q ∈ L,0 ≤ q.1∧q.1 < 10007) (hM:∀ q ∈ M,0 ≤ q.1∧q.1 < 10007) (h:∀ F:κ→Int,Eqm (lin F L) (lin F M)):sumS c L = sumS c M :=
 nf_lin hc (xH hc hL) (xH hc hM) (fun F => (xM hc F L).trans ((h F).trans (xM hc F M).symm))
omit hc
theorem addS_memL:∀ (M L:List (Int × κ)) {q:Int × κ},q ∈ addS c L M→(∃ p ∈ L,p.2 = q.2) ∨ ∃ p ∈ M,p.2 = q.2
 | [],L,q,h => .inl ⟨q,h,rfl⟩
 | r :: M,L,q,h => by
  rcases addS_memL M (putS c L r.1 r.2) h with ⟨p,h1,h2⟩|⟨p,h1,h2⟩
  ·rcases putS_mem L r.1 r.2 h1 with h3|⟨p',h3,h4⟩
   ·exact .inr ⟨r,by simp,by rw [← h2,h3]⟩
   ·exact .inl ⟨p',h3,by rw [h4,h2]⟩
  ·exact .inr ⟨p,by simp [h1],h2⟩
theorem kR {M:List (Int × κ)} {q:Int × κ} (h:q ∈ sumS c M):∃ p ∈ M,p.2 = q.2:=by
 rcases addS_memL M [] h with ⟨p,h1,_⟩|h
 ·cases h1
 ·exact h
end
theorem jK0 (F:List (List Int)→Int) (d e:Elt):Eqm (lin F (prodL d e)) (lin (fun x => lin (fun y => F (mulF x y)) e) d):=by
 induction d with
 | nil => exact Eqm.refl _
 | cons p d ih =>
  have e1:prodL (p :: d) e = (e.map fun q => (mP (p.1 * q.1),mulF p.2 q.2)) ++ prodL d e:=by unfold prodL;rw [List.flatMap_cons]
  rw [e1,jJ0,jP]
  refine Eqm.add ?_ ih
  have h:=lin_map F (mulF p.2) p.1 e
  refine Eqm.trans (Eqm.of ?_) h
  congr 1
  exact List.map_congr_left fun q _ => by rw [Int.mul_comm]
theorem prodL_range {d e:Elt}:∀ q ∈ prodL d e,0 ≤ q.1∧q.1 < 10007:=fun q hq => by
 unfold prodL at hq
 obtain ⟨p,_,hq⟩:=List.mem_flatMap.1 hq
 obtain ⟨r,_,rfl⟩:=List.mem_map.1 hq
 exact jD _
theorem lin_swap {α β:Type} (F:α→β→Int) (d:List (Int × α)) (e:List (Int × β)):lin (fun x => lin (fun y => F x y) e) d = lin (fun y => lin (fun x => F x y) d) e:=by
 induction d with
 | nil =>
  show 0 = lin (fun _ => 0) e
  induction e with
  | nil => rfl
  | cons q e ih => rw [jP,← ih];omega
 | cons p d ih =>
  rw [jP,ih]
  clear ih
  induction e with
  | nil => simp [lin]
  | cons q e ih =>
   rw [jP,jP,jP,jP,← ih,Int.mul_add,Int.mul_add,Int.mul_left_comm p.1 q.1]
   omega
theorem pairwise_at {α:Type} {r:α→α→Prop} {l:List α} (h:l.Pairwise r) {i j:Nat} (hi:i < l.length) (hj:j < l.length) (hij:i < j):r l[i] l[j]:=List.pairwise_iff_getElem.1 h i j hi hj hij
theorem forB_of {f:List (List Int)} (h1:qQ f ≤ 8) (h2:∀ t ∈ f,canT t = true) (h3:f.Pairwise fun a b => cmpT a b ≤ 0):forB f = true:=by
 unfold forB
 rw [Bool.and_eq_true,qY0]
 refine ⟨decide_eq_true h1,fun i hi => ?_⟩
 unfold okT
 rw [yM hi,h2 _ (List.getElem_mem _),Bool.true_and,Bool.or_eq_true]
 rcases Nat.eq_zero_or_pos i with h|h
 ·exact .inl (decide_eq_true h)
 ·refine .inr (decide_eq_true ?_)
  rw [yM (show i - 1 < f.length by omega)]
  exact pairwise_at h3 (by omega) hi (by omega)
theorem elB_of {e:Elt} (h1:e.length ≤ 300) (h2:NfS cmpF e) (h3:∀ p ∈ e,forB p.2 = true):elB e = true:=by
 unfold elB
 rw [Bool.and_eq_true,qY0]
 refine ⟨decide_eq_true h1,fun i hi => ?_⟩
 unfold okP
 have h4:=h2.2 _ (List.getElem_mem hi)
 rw [yM hi,h3 _ (List.getElem_mem _),Bool.and_true,decide_eq_true h4.1,decide_eq_true h4.2,Bool.true_and,Bool.true_and,Bool.or_eq_true]
 rcases Nat.eq_zero_or_pos i with h|h
 ·exact .inl (decide_eq_true h)
 ·refine .inr (decide_eq_true ?_)
  rw [yM (show i - 1 < e.length by omega)]
  exact pairwise_at h2.1 (by omega) hi (by omega)
theorem mulF_forB {f g:List (List Int)} (hf:forB f = true) (hg:forB g = true) (h:qQ f + qQ g ≤ 8):forB (mulF f g) = true:=by
 refine forB_of (by rw [kU];exact h) (fun t ht => ?_) (jW0 f g)
 have:t ∈ f ++ g:=(jH (c:=cmpT) (f ++ g)).subset ht
 rcases List.mem_append.1 this with h|h
 ·exact (xU hf).2.1 t h
 ·exact (xU hg).2.1 t h
theorem limS_ok {L:Elt} (h:(limS L).2 = 0):limS L = (L,0)∧L.length ≤ 300∧∀ p ∈ L,qQ p.2 ≤ 8:=by
 unfold limS at h ⊢
 split at h
 ·rename_i h1;rw [if_pos h1];exact ⟨rfl,h1⟩
 ·exact absurd h (by decide)
theorem limS_code (L:Elt):limS L = (L,0) ∨ limS L = ([],3):=by
 unfold limS
 split
 ·exact .inl rfl
 ·exact .inr rfl
theorem limS_of {L:Elt} (h1:L.length ≤ 300) (h2:∀ p ∈ L,qQ p.2 ≤ 8):limS L = (L,0):=by unfold limS;rw [if_pos ⟨h1,h2⟩]
theorem tim_cases {d e:Elt} (hd:elB d = true) (he:elB e = true):(timOf d e = (sumS cmpF (prodL d e),0)∧elB (sumS cmpF (prodL d e)) = true) ∨ timOf d e = ([],3):=by
 unfold timOf
 rw [if_pos (by rw [hd,he];rfl)]
 rcases limS_code (sumS cmpF (prodL d e)) with h|h
 ·refine .inl ⟨h,?_⟩
  obtain ⟨_,h1,h2⟩:=limS_ok (by rw [h])
  refine elB_of h1 (xH jV prodL_range) (fun p hp => ?_)
  obtain ⟨q,hq,e1⟩:=kR hp
  have hs:=h2 p hp
  rw [← e1] at hs ⊢
  unfold prodL at hq
  obtain ⟨a,ha,hq⟩:=List.mem_flatMap.1 hq
  obtain ⟨b,hb,rfl⟩:=List.mem_map.1 hq
  rw [kU] at hs
  exact mulF_forB ((yE hd).2.2.2 a ha) ((yE he).2.2.2 b hb) hs
 ·exact .inr h
theorem nf_range {e:Elt} (h:elB e = true):∀ q ∈ e,0 ≤ q.1∧q.1 < 10007:=fun q hq => by have:=(yE h).2.1.2 q hq;omega
theorem app_range {κ:Type} {d e:List (Int × κ)} (h1:∀ q ∈ d,0 ≤ q.1∧q.1 < 10007) (h2:∀ q ∈ e,0 ≤ q.1∧q.1 < 10007):∀ q ∈ d ++ e,0 ≤ q.1∧q.1 < 10007:=fun q hq => by
 rcases List.mem_append.1 hq with h|h
 ·exact h1 q h
 ·exact h2 q h
theorem add_cases {d e:Elt} (hd:elB d = true) (he:elB e = true):(addOf d e = (sumS cmpF (d ++ e),0)∧elB (sumS cmpF (d ++ e)) = true) ∨ addOf d e = ([],3):=by
 unfold addOf
 rw [if_pos (by rw [hd,he];rfl)]
 rcases limS_code (sumS cmpF (d ++ e)) with h|h
 ·refine .inl ⟨h,?_⟩
  obtain ⟨_,h1,h2⟩:=limS_ok (by rw [h])
  refine elB_of h1 (xH jV (app_range (nf_range hd) (nf_range he))) (fun p hp => ?_)
  obtain ⟨q,hq,e1⟩:=kR hp
  rw [← e1]
  rcases List.mem_append.1 hq with h|h
  ·exact (yE hd).2.2.2 q h
  ·exact (yE he).2.2.2 q h
 ·exact .inr h
end
end Go.Proofs.YtedgfkpfhonlpaaGreat

/- Lemmas (10). -/
import Derived.ChangeSame
import Derived.Test.YtedgfkpfhonlpaaGreatZD0
import Derived.Test.YtedgfkpfhonlpaaGreatZD1
import Derived.Test.YtedgfkpfhonlpaaGreatZD3
import Derived.Test.YtedgfkpfhonlpaaGreatZD5
import Derived.Test.YtedgfkpfhonlpaaGreatZD6
import Derived.Test.YtedgfkpfhonlpaaGreatZD7
import Derived.Test.YtedgfkpfhonlpaaGreatZD8
import Derived.Test.YtedgfkpfhonlpaaGreatZD9
set_option maxHeartbeats 16000000
set_option maxRecDepth 100000
set_option linter.unusedSimpArgs false
set_option linter.unusedVariables false
namespace Go.Proofs.YtedgfkpfhonlpaaGreat
open Go.RowKit
section
theorem Row.take {w:World} {k n m cap:Nat} {ds:List Value} {og:Option Nat} (h:Row w (slv og n cap) k n ds og) (hm:m ≤ n):Row w (slv og m cap) k m (ds.take (m * k)) og:=by
 refine ⟨by rw [List.length_take,h.1];exact Nat.min_eq_left (Nat.mul_le_mul_right k hm),?_⟩
 rcases h.2 with ⟨h1,h2,h3⟩|⟨g,c,cur,e,h1,h2,h3,h4,h5,h6,h7⟩
 ·subst h3
  exact .inl ⟨rfl,by omega,rfl⟩
 ·subst h2
  have hc:cap = c:=by
   unfold slv at h1
   simp only [Value.slice.injEq] at h1
   exact h1.2.2
  subst hc
  refine .inr ⟨g,cap,cur,e,rfl,rfl,h3,by omega,h5,h6,?_⟩
  rw [← h7,List.take_take,Nat.min_eq_left (Nat.mul_le_mul_right k hm)]
section
variable {P:Program} {cfg:Cfg} {M:Nat→Prop} {w0:W0} {w w':World} {Ok:Nat→Prop} {N:Nat} {σ:Asg} {s:St} {a:Act} {ops:Array Oper}
theorem Sim.trunc (h:Sim w0 Ok N σ s a w) {key k n:Nat} {xs:List (List D)} {d:Bool} (hk:look key s.heap = some (.row k xs d)) (hn:n ≤ xs.length) (hnr:∀ q u,q ≠ key→look q s.heap = some u→key ∉ u.refs) :
  Sim w0 Ok N σ ⟨killR key s.regs,insR key (.row k (xs.take n) false) s.heap⟩ a w:=by
 have hro:=h.rows key _ hk
 obtain ⟨ds,hrow,hkp,hrd⟩:=RowOK.rd h.ok1 h.rows h.disj hk
 have hlen:(xs.take n).length = n:=by rw [List.length_take];omega
 have hfp0:∀ b ∈ fp σ key (.row k (xs.take n) false),b ∈ fp σ key (.row k xs d):=by
  intro b hb
  have hb:b ∈ (σ.g key).toList ++ []:=hb
  rw [List.append_nil] at hb
  exact List.mem_append_left _ hb
 have hl:∀ q o',look q (insR key (.row k (xs.take n) false) s.heap) = some o'→(q = key∧o' = .row k (xs.take n) false) ∨ (q ≠ key∧look q s.heap = some o'):=by
  intro q o' ho'
  rw [jV] at ho'
  split at ho'
  ·rename_i e;cases ho';exact .inl ⟨e.symm,rfl⟩
  ·rename_i e;exact .inr ⟨fun e' => e e'.symm,ho'⟩
 have hZ:jJ σ σ s.heap (insR key (.row k (xs.take n) false) s.heap) w w:=fun b hb => ⟨⟨hb.1,hb.2.1,fun q o' ho' => by
  rcases hl q o' ho' with ⟨rfl,_⟩|⟨_,ho⟩
  ·exact hb.2.2 q _ hk
  ·exact hb.2.2 q _ ho⟩,rfl⟩
 have hst:∀ q,q ≠ key→jY σ σ s.heap (insR key (.row k (xs.take n) false) s.heap) q:=fun q hq o' ho' => by
  rcases hl q o' ho' with ⟨e,_⟩|⟨_,ho⟩
  ·exact absurd e hq
  ·exact ⟨o',ho,rfl,rfl,rfl,rfl⟩
 refine (h.killed key).step rfl h.below hZ (fun _ _ => rfl) (fun r av hr => ⟨av,hr,.inl ⟨rfl,fun q hq => hst q ?_⟩⟩) (fun q o' ho' => ?_) (fun p o1 q u hp hq hpq b hb hb' => ?_)
 ·have hr':look r (killR key s.regs) = some av:=hr
  rw [wJ] at hr'
  obtain ⟨v,_,rfl⟩:=map_some hr'
  exact (AV.kill_refs hq).1
 ·rcases hl q o' ho' with ⟨rfl,rfl⟩|⟨hq,ho⟩
  ·refine ⟨⟨ds.take (n * k),?_,hkp,?_⟩,fun b hb => hro.fresh b (hfp0 b hb),?_⟩
   ·show Row w (slv (σ.g q) (xs.take n).length (σ.cap q)) k (xs.take n).length _ (σ.g q)
    rw [hlen]
    exact Row.take hrow hn
   ·show rdR k _ w _ (xs.take n)
    exact (hrd.take n hn).mono (fun b hb _ => (hZ b hb).1)
   ·show ((σ.g q).toList ++ []).Nodup
    rw [List.append_nil]
    cases σ.g q <;> simp
  ·exact RowOK.keep h.ok1 h.rows h.disj ho hZ (fun q' hq' => hst q' (fun e => hnr q o' hq ho (e ▸ hq'))) rfl rfl rfl (fun _ _ => rfl)
 ·have hp2:∃ o2,look p s.heap = some o2∧b ∈ fp σ p o2:=by
   rcases hl p o1 hp with ⟨rfl,rfl⟩|⟨_,ho⟩
   ·exact ⟨_,hk,hfp0 b hb⟩
   ·exact ⟨_,ho,hb⟩
  have hq2:∃ o2,look q s.heap = some o2∧b ∈ fp σ q o2:=by
   rcases hl q u hq with ⟨rfl,rfl⟩|⟨_,ho⟩
   ·exact ⟨_,hk,hfp0 b hb'⟩
   ·exact ⟨_,ho,hb'⟩
  obtain ⟨o2,ho2,hb2⟩:=hp2
  obtain ⟨u2,hu2,hb3⟩:=hq2
  exact h.disj p o2 q u2 ho2 hu2 hpq b hb2 hb3
theorem cellD_un {z d:D} {k:Nat} {xs:List (List D)} (h:d.un = .sl k xs):cellD z (.val d) = some (d,false):=by
 cases d with
 | sl => rfl
 | tag => rfl
 | int => cases h
 | bool => cases h
 | raw => cases h
theorem qJ.regCut (C:CfgOK P cfg) (T:Tab P) {fs:List Fr} {Q:Exit→St→Prop} {id:Nat} (n:Nat) {s1:St} (ha:Work (aopsT cfg T ops (ops.toList.take n) s) (some s1))
  (h:qW P cfg M ops (ops.toList.drop n) (outK P cfg M fs Q .normal) s1):qJ P cfg M (.region id ops false) fs Q s:=by
 refine qT.region ?_
 have e:ops.toList = ops.toList.take n ++ ops.toList.drop n:=(List.take_append_drop n _).symm
 have cut:∀ (l m:List Oper) (s:St),aopsT cfg T ops l s = some s1→qW P cfg M ops m (outK P cfg M fs Q .normal) s1→qW P cfg M ops (l ++ m) (outK P cfg M fs Q .normal) s:=by
  intro l
  induction l with
  | nil => intro m s h1 h2;simp only [aopsT,Option.some.injEq] at h1;subst h1;exact h2
  | cons o l ih =>
   intro m s h1 h2
   simp only [aopsT] at h1
   obtain ⟨s2,h3,h4⟩:=bind_some h1
   exact qW.stepT C h3 (ih m s2 h4 h2)
 rw [e]
 exact cut _ _ s ha h
theorem qW.trunc (C:CfgOK P cfg) {o:Oper} {l:List Oper} {Q:St→Prop} {x hi:Operand} {t:TypeId} {i:TyI} {d key m n k:Nat} {xs:List (List D)} {dd:Bool} (ho:o.op = .slice t x none (some hi) none) (hg:o.guard = none) (hd:o.dst = some d) (hdN:d < cfg.N)
  (ht:cfg.sl t = some i) (hx:opv s.regs x = some (.c (.own key m))) (hh:(opv s.regs hi).bind avI = some (n:Int)) (hk:look key s.heap = some (.row k xs dd)) (hle:n ≤ xs.length) (hnr:∀ q u,q ≠ key→look q s.heap = some u→key ∉ u.refs)
  (h:qW P cfg M ops l Q ⟨insR d (.c (.own key n)) (killR key s.regs),insR key (.row k (xs.take n) false) s.heap⟩):qW P cfg M ops (o :: l) Q s:=by
 intro w0 Ok σ a w Q' hM hS hQ
 refine wpList_step (fun K hK => ?_)
 have hw:qR ops s.regs o = some true:=by unfold qR;rw [hg]
 rw [xZ hS hw]
 simp only [if_true]
 obtain ⟨z,T,_⟩:=C.sl t i ht
 obtain ⟨ti,hti,_,hsz,_⟩:=T.hi
 have hxr:=(jQ hS hx).2 _ hk
 obtain ⟨e1,e2⟩:=hxr
 have e1:m = xs.length:=e1
 obtain ⟨hv,h3,h4⟩:=bind_some hh
 have hhi:a.eval hi = .int .i64 n:=(jW.1 (show rdV (Zn σ s.heap w) w (a.eval hi) (.int n) by
  have hr:=jQ hS h3
  unfold avI at h4
  split at h4
  ·cases h4;exact hr.2
  ·cases h4)).1
 have hro:=hS.rows key _ hk
 obtain ⟨ds,hrow,_⟩:=hro.row
 have hrow:Row w (slv (σ.g key) xs.length (σ.cap key)) k xs.length ds (σ.g key):=hrow
 obtain ⟨oa,c,ev,k1,k2,k3,k4⟩:=vT hrow
 have hxe:a.eval x = .slice oa m c:=by rw [e2,e1];exact ev
 have hrun:(execOp a.eval o).run P w = .ok (.value (slv (σ.g key) n (σ.cap key))) w:=by
  unfold execOp
  rw [ho]
  have:=run_sliceSl (P:=P) T.ht ⟨ti,hti,hsz⟩ (oa:=oa) (m:=m) (c:=c) (lo:=none) (hi:=some (n:Int)) (by simp) (by simp) (by simp;omega) (by rw [e1];exact k1) w
  simp only [Option.getD_none,Option.getD_some,Option.map_none,Option.map_some] at this
  rw [show (0:Int).toNat = 0 from rfl,Int.toNat_natCast,Nat.sub_zero,Nat.sub_zero,Nat.zero_mul] at this
  have hval:(Value.slice (if c = 0 then oa else oa.map (·.add 0)) n c) = slv (σ.g key) n (σ.cap key):=by
   cases hgk:σ.g key with
   | none =>
    rw [hgk] at k4 hrow
    have h0:=hrow.len0
    have hoa:oa = none:=k4
    have hc0:=k3 hoa
    subst hoa
    have:n = 0:=by omega
    subst this;subst hc0
    rfl
   | some b =>
    rw [hgk] at k4 ev
    have hoa:oa = some ⟨b,0,none⟩:=k4
    unfold slv at ev
    simp only [Value.slice.injEq] at ev
    rw [hoa,← ev.2.2]
    simp [slv,Addr.add]
  rw [← hval]
  simp only [hxe,hhi,Option.map_none,Option.map_some]
  simp [this]
 unfold Oper.wp
 rw [hrun]
 show K (a.put o.dst _) _
 rw [hd]
 have hS2:=hS.trunc hk hle hnr
 refine hK _ _ (h w0 Ok σ _ _ Q' hM (Sim.ins hS2 hdN ⟨by cases σ.g key <;> rfl,fun o' ho' => ?_⟩) hQ)
 rw [jV,if_pos rfl] at ho'
 cases ho'
 have hlen:(xs.take n).length = n:=by rw [List.length_take];omega
 exact ⟨hlen.symm,rfl⟩
theorem qW.clear (C:CfgOK P cfg) {o:Oper} {l:List Oper} {Q:St→Prop} {x:Operand} {t:TypeId} {i:TyI} {key j m k:Nat} {xs:List (List D)} {dd:Bool} (ho:o.op = .call ⟨.builtin .clear,#[x],#[t]⟩) (hg:o.guard = none) (hd:o.dst = none)
  (ht:cfg.sl t = some i) (hx:opv s.regs x = some (.c (.view key j m))) (hk:look key s.heap = some (.row k xs dd)) (hki:k = i.z.length) (hle:j + m = xs.length)
  (h:qW P cfg M ops l Q ⟨s.regs,insR key (.row k (xs.take j ++ List.replicate m i.z) false) s.heap⟩):qW P cfg M ops (o :: l) Q s:=by
 intro w0 Ok σ a w Q' hM hS hQ
 refine wpList_step (fun K hK => ?_)
 have hw:qR ops s.regs o = some true:=by unfold qR;rw [hg]
 rw [xZ hS hw]
 simp only [if_true]
 obtain ⟨z,T,hz⟩:=C.sl t i ht
 obtain ⟨_,oa,c,ev,v1,v2,v3,v4⟩:=(jQ hS hx).2 _ hk
 have hro:=hS.rows key _ hk
 obtain ⟨ds,hrow,hkp,hrd⟩:=RowOK.rd hS.ok1 hS.rows hS.disj hk
 have hlen:(xs.take j ++ List.replicate m i.z).length = xs.length:=by simp;omega
 obtain ⟨W,hrun,hR,hgr⟩:∃ W,(execOp a.eval o).run P w = .ok (.value (.tuple #[])) W∧Row W (slv (σ.g key) xs.length (σ.cap key)) k xs.length (ds.take (j * k) ++ (List.replicate m (i.z.map zval)).flatten) (σ.g key)∧w.grownBy W (σ.g key):=by
  rcases v4 with rfl|⟨b,hgb,rfl⟩
  ·refine ⟨w,?_,?_,World.grownBy.refl _ _⟩
   ·unfold execOp
    rw [ho]
    cases oa <;> simp [resolve,invoke,builtin,ev,Builtin.clear_,run_underlying T.ht]
   ·have:ds.take (j * k) = ds:=List.take_of_length_le (by rw [hrow.1];simp at hle;rw [hle];exact Nat.le_refl _)
    rw [this];simpa using hrow
  ·rw [hgb] at hrow ⊢
   have ev:a.eval x = .slice (some ⟨b,j * k,none⟩) m c:=ev
   obtain ⟨cs,hcs⟩:∃ cs,cs = (Builtin.zeroCells z.cells m).toList:=⟨_,rfl⟩
   have hcs2:cs = (List.replicate m (i.z.map zval)).flatten:=by
    rw [hcs,← jC0 hz T.hk m]
    have hs:z.cells.size = i.z.length:=by rw [← Array.length_toList,hz.1,List.length_map]
    unfold Builtin.zeroCells madeCells
    rw [hs]
   have hcl:cs.length = m * k:=by rw [hcs2,hki];simp
   have hone:∀ v ∈ cs,v.oneCell' = true:=by
    intro v hv
    rw [hcs2] at hv
    have:=(rep_own hz.2 T.hk w m).rd.one
    exact this v hv
   have hoff:j * k + cs.length ≤ ds.length:=by rw [hrow.1,hcl,← Nat.add_mul,hle];exact Nat.le_refl _
   obtain ⟨r1,r2⟩:=Row.storeCells cs (j * k) hrow hoff
   refine ⟨w.setCells b (j * k) cs,?_,?_,r2⟩
   ·have hst:=run_storeCells_cells (P:=P) b (j * k) cs 0 w (fun q hq => by
     rw [Nat.add_zero]
     have hlt:j * k + q < ds.length:=by omega
     rw [hrow.cells (j * k + q) ds[j * k + q] (List.getElem?_eq_getElem hlt)];rfl) (fun q hq => hrow.frozen _) hone
    rw [Nat.add_zero] at hst
    unfold execOp
    rw [ho]
    cases m with
    | zero =>
     have:cs = []:=by rw [hcs2];rfl
     subst this
     simp [resolve,invoke,builtin,ev,Builtin.clear_,run_underlying T.ht]
     rfl
    | succ m =>
     obtain ⟨ti,hti,hzz,hsz,_⟩:=T.hi
     simp [resolve,invoke,builtin,ev,Builtin.clear_,run_underlying T.ht,zeroValue,typeInfo,hti,hzz,← hcs,hst]
   ·rw [hcs2] at r1 ⊢
    have e:qN ds (j * k) ((List.replicate m (i.z.map zval)).flatten) = ds.take (j * k) ++ (List.replicate m (i.z.map zval)).flatten:=by
     unfold qN
     rw [List.drop_of_length_le (by rw [hrow.1,← hcs2,hcl,← Nat.add_mul,hle];exact Nat.le_refl _),List.append_nil]
    rw [e] at r1
    exact r1
 unfold Oper.wp
 rw [hrun]
 show K (a.put o.dst _) _
 rw [hd]
 have hl:∀ q o',look q (insR key (.row k (xs.take j ++ List.replicate m i.z) false) s.heap) = some o'→(q = key∧o' = .row k (xs.take j ++ List.replicate m i.z) false) ∨ (q ≠ key∧look q s.heap = some o'):=by
  intro q o' ho'
  rw [jV] at ho'
  split at ho'
  ·rename_i e;cases ho';exact .inl ⟨e.symm,rfl⟩
  ·rename_i e;exact .inr ⟨fun e' => e e'.symm,ho'⟩
 have hblk:∀ b,b < w.heap.size→σ.g key ≠ some b→W.heap[b]? = w.heap[b]?:=fun b hb hne => hgr.block b hb (fun e => hne e.symm)
 have hZ:jJ σ σ s.heap (insR key (.row k (xs.take j ++ List.replicate m i.z) false) s.heap) w W:=fun b hb => ⟨⟨Nat.lt_of_lt_of_le hb.1 hgr.size,hb.2.1,fun q o' ho' => by
  rcases hl q o' ho' with ⟨rfl,_⟩|⟨_,ho⟩
  ·exact hb.2.2 q _ hk
  ·exact hb.2.2 q _ ho⟩,hblk b hb.1 (hb.2.2 key _ hk)⟩
 have hst:∀ q,jY σ σ s.heap (insR key (.row k (xs.take j ++ List.replicate m i.z) false) s.heap) q:=fun q o' ho' => by
  rcases hl q o' ho' with ⟨rfl,rfl⟩|⟨_,ho⟩
  ·exact ⟨_,hk,rfl,hlen.symm,rfl,rfl⟩
  ·exact ⟨o',ho,rfl,rfl,rfl,rfl⟩
 have hfp0:∀ b ∈ fp σ key (.row k (xs.take j ++ List.replicate m i.z) false),b ∈ fp σ key (.row k xs dd):=by
  intro b hb
  have hb:b ∈ (σ.g key).toList ++ []:=hb
  rw [List.append_nil] at hb
  exact List.mem_append_left _ hb
 refine hK _ _ (h w0 Ok σ _ _ Q' hM ?_ hQ)
 refine hS.step rfl (hS.below.grown hgr (fun b hb => hro.fresh b (qE hb))) hZ (hS.grownY hgr (fun b hb => hro.fresh b (qE hb))) (fun r av hr => ⟨av,hr,.inl ⟨rfl,fun q _ => hst q⟩⟩) (fun q o' ho' => ?_) (fun p o1 q u hp hq hpq b hb hb' => ?_)
 ·rcases hl q o' ho' with ⟨rfl,rfl⟩|⟨hq,ho⟩
  ·refine ⟨⟨ds.take (j * k) ++ (List.replicate m (i.z.map zval)).flatten,?_,hkp,?_⟩,fun b hb => hro.fresh b (hfp0 b hb),?_⟩
   ·show Row W (slv (σ.g q) (xs.take j ++ List.replicate m i.z).length (σ.cap q)) k (xs.take j ++ List.replicate m i.z).length _ (σ.g q)
    rw [hlen];exact hR
   ·show rdR k _ W _ (xs.take j ++ List.replicate m i.z)
    refine rdR.append (((hrd.take j (by omega)).step hZ)) ?_
    have:=(rep_own hz.2 T.hk W m).rd
    rw [← hki] at this
    exact this.mono (fun b hb _ => by cases hb)
   ·show ((σ.g q).toList ++ []).Nodup
    rw [List.append_nil]
    cases σ.g q <;> simp
  ·refine RowOK.keep hS.ok1 hS.rows hS.disj ho hZ (fun q' _ => hst q') rfl rfl rfl (fun b hb => hblk b (yG hS ho b (qE hb)) (fun e => ?_))
   exact hS.disj key _ q o' hk ho (fun e => hq e.symm) b (qE e) (qE hb)
 ·have hp2:∃ o2,look p s.heap = some o2∧b ∈ fp σ p o2:=by
   rcases hl p o1 hp with ⟨rfl,rfl⟩|⟨_,ho⟩
   ·exact ⟨_,hk,hfp0 b hb⟩
   ·exact ⟨_,ho,hb⟩
  have hq2:∃ o2,look q s.heap = some o2∧b ∈ fp σ q o2:=by
   rcases hl q u hq with ⟨rfl,rfl⟩|⟨_,ho⟩
   ·exact ⟨_,hk,hfp0 b hb'⟩
   ·exact ⟨_,ho,hb'⟩
  obtain ⟨o2,ho2,hb2⟩:=hp2
  obtain ⟨u2,hu2,hb3⟩:=hq2
  exact hS.disj p o2 q u2 ho2 hu2 hpq b hb2 hb3
end
end
section
section
variable {P:Program} {cfg:Cfg} {w0:W0} {w w':World} {Ok:Nat→Prop} {N:Nat} {σ σ':Asg} {s s':St} {a:Act} {M:Nat→Prop}
theorem qH.split {A:Nat→Prop}:∀ {pre:List (List D)} {ds:List (List D)} {vs:List Value},qH A w (pre ++ ds) vs→∃ vs1 vs2,vs = vs1 ++ vs2∧qH A w pre vs1∧qH A w ds vs2
 | [],ds,vs,h => ⟨[],vs,rfl,rfl,h⟩
 | d :: pre,ds,vs,⟨v,us,e,h1,h2⟩ => by
  obtain ⟨us1,us2,e2,h3,h4⟩:=qH.split h2
  subst e2;subst e
  exact ⟨v :: us1,us2,rfl,⟨v,us1,rfl,h1,h3⟩,h4⟩
theorem qH.join {A:Nat→Prop}:∀ {pre:List (List D)} {ds:List (List D)} {vs1 vs2:List Value},qH A w pre vs1→qH A w ds vs2→qH A w (pre ++ ds) (vs1 ++ vs2)
 | [],ds,vs1,vs2,h,k => by rw [show vs1 = [] from h];exact k
 | d :: pre,ds,vs1,vs2,⟨v,us,e,h1,h2⟩,k => by
  subst e
  exact ⟨v,us ++ vs2,rfl,h1,qH.join h2 k⟩
theorem Bel.nil (h:Bel ⟨w,fun b => (none:Option Nat) = some b⟩ w'):Below w.heap.size w w' :=
 ⟨h.os,h.tape,h.output,h.size,fun i hi => h.block i hi (fun e => nomatch e) (fun h => h)⟩
theorem AOw.nil {g:FuncId} {pre post:List (List D)} {k:Nat} {Q:List Res→Prop} (h:AOw P g pre k [] post Q) (hk:0 < k):AFn P g (pre ++ [.raw (.slice none 0 0)] :: post) Q:=by
 refine ⟨h.call,fun A w vs hA hr => ?_⟩
 obtain ⟨vs1,vs2,e,h1,v,us,e2,h2,h3⟩:=qH.split hr
 subst e2;subst e
 obtain ⟨rfl,_⟩:=yU.1 (show rdV A w v (.raw (.slice none 0 0)) from h2)
 refine (h.fn A w vs1 us none 0 [] hA h1 h3 ⟨(Nat.zero_mul k).symm,.inl ⟨rfl,rfl,rfl⟩⟩ hk (by first|exact ⟨0,hk,rfl⟩|exact ⟨0,hk,trivial⟩|exact ⟨0,hk,by simp [rdL]⟩) (fun b e => nomatch e)).mono ?_
 rintro e w' ⟨v,rs,rfl,hQ,hb,ho⟩
 have e:(W0.mine ⟨w,fun b => (none:Option Nat) = some b⟩) = fun b => w.heap.size ≤ b:=by funext b;simp [W0.mine]
 rw [e] at ho
 exact ⟨v,rs,rfl,hQ,hb.nil,ho⟩
theorem n_callR (C:CfgOK P cfg) (h:Sim w0 Ok N σ s a w) {o:Oper} {f:Operand} {args:Array Operand} {ts:Array TypeId} {g:FuncId} (ho:o.op = .call ⟨.value f,args,ts⟩) (hf:((opv s.regs f).bind avD).bind fnId = some g)
  {ds:List (List D)} (hd:qH (Zn σ s.heap w) w ds (args.toList.map a.eval)) {Q0:List Res→Prop} (hfn:AFn P g ds Q0)
  {K:Act→World→Prop} {Q:Exit→Act→World→Prop} {key:Nat} (hfr:∀ rs,Q0 rs→∀ q ob,look q (qZ key rs).2 = some ob→Free s q)
  (hK:∀ rs,Q0 rs→∀ v w' σ',relAV σ' ((qZ key rs).2 ++ s.heap) w' (outAV (qZ key rs).1) v→Sim w0 Ok N σ' ⟨s.regs,(qZ key rs).2 ++ s.heap⟩ a w'→K (a.put o.dst v) w'):o.wp P a w K Q:=by
 have hfv:a.eval f = .func (.func g) #[] #[]:=qQ0 h hf
 have hrun:(execOp a.eval o).run P w = .ok (.enter g (args.map a.eval)) w:=by
  unfold execOp
  rw [ho]
  simp [resolve,Deferred.ofValue,hfv,invoke,hfn.call]
 obtain ⟨A,hA,hAa,hAz⟩:∃ A:Nat→Prop,(∀ b,A b→b < w.heap.size)∧qH A w ds (args.toList.map a.eval)∧((∃ rs,Q0 rs∧rs.all Res.scalar = false)→∀ b,A b→Zn σ s.heap w b):=by
  exact ⟨Zn σ s.heap w,fun _ h => h.1,hd,fun _ b hb => hb⟩
 have hcall:=hfn.fn A w (args.toList.map a.eval) hA hAa
 unfold Oper.wp
 rw [hrun,Oper.upon_enter]
 have e:(args.toList.map a.eval).toArray = args.map a.eval:=by rw [← Array.toList_map,Array.toArray_toList]
 rw [← e]
 refine hcall.mono ?_
 rintro e w' ⟨v,rs,rfl,hQ,hw,us,G,X,rfl,hG1,hG2,hrel⟩
 obtain ⟨σ',k0,k1,k2,k3,k4⟩:=wR key σ hrel hG1
 have hgn:∀ q u,look q (qZ key rs).2 = some u→∀ b,σ'.g q = some b→w.heap.size ≤ b:=fun q u hq b hb => hG2 b ((k2 q u hq).2.2.1 b (qE hb))
 have hZ1:(∀ b,A b→Zn σ s.heap w b)→∀ b,((A b ∨ w.heap.size ≤ b)∧b ∉ X)→b < w'.heap.size→Zn σ' ((qZ key rs).2 ++ s.heap) w' b:=by
  intro hAz b hb hlt
  have hz:=jJ.grown hw h hAz b hb.1 hlt
  refine ⟨hlt,by rw [k0];exact hz.2.1,fun q u hq e => ?_⟩
  rw [yZ] at hq
  cases hn:look q (qZ key rs).2 with
  | some o' => exact hb.2 ((k2 q o' hn).2.2.2 b e)
  | none =>
   rw [hn] at hq
   rw [(k1 q hn).1] at e
   exact hz.2.2 q u hq e
 refine hK rs hQ _ w' σ' (out_rel ?_) ?_
 ·by_cases hsc:rs.all Res.scalar = true
  ·exact k4.relS hsc
  ·exact k4.rel (hZ1 (hAz ⟨rs,hQ,by simpa using hsc⟩))
 ·refine h.news k0 hw (hfr rs hQ) k1 (fun q o' hq => ?_) (fun q o' hq => ?_) k3
  ·obtain ⟨⟨dd,k,xs,d,b1,b2,b3,b4⟩,_⟩:=k2 q o' hq
   subst b1
   refine ⟨dd,b2,b3,?_⟩
   show if d = true then ownR k w' dd xs (σ'.F q) else rdR k (Zn σ' ((qZ key rs).2 ++ s.heap) w') w' dd xs
   cases d with
   | true => rw [if_pos rfl];exact b4
   | false =>
    rw [if_neg (by decide)]
    have b4':rdR k (fun b => (A b ∨ w.heap.size ≤ b)∧b ∉ X) w' dd xs:=b4
    have hsc:rs.all Res.scalar = false:=by
     have key:∀ {rs:List Res} {key:Nat} {q:Nat},look q (qZ key rs).2 = some (.row k xs false)→rs.all Res.scalar = false:=by
      intro rs
      induction rs with
      | nil => intro key q hq;cases hq
      | cons r rs ih =>
       intro key q hq
       cases r with
       | val d => rw [List.all_cons,ih (by simpa [qZ,resAC] using hq),Bool.and_false]
       | own kk ys d =>
        simp only [qZ,resAC,List.singleton_append,look] at hq
        split at hq
        ·cases hq;rfl
        ·rw [List.all_cons,ih hq,Bool.and_false]
     exact key hq
    exact b4'.mono (fun b hb hlt => hZ1 (hAz ⟨rs,hQ,hsc⟩) b hb hlt)
  ·obtain ⟨_,b5,b6,_⟩:=k2 q o' hq
   exact ⟨fun b hb => hG2 b (b6 b hb),b5⟩
theorem qW.callNilP (C:CfgOK P cfg) {ops:Array Oper} {o:Oper} {l:List Oper} {Q:St→Prop} {d:Nat} {f:Operand} {args:Array Operand} {ts:Array TypeId} {g:FuncId} (hb:qR ops s.regs o = some true) (hdN:d < cfg.N)
  (ho:o.op = .call ⟨.value f,args,ts⟩) (hod:o.dst = some d) (hf:((opv s.regs f).bind avD).bind fnId = some g)
  {xs:List Operand} {tx:List TypeId} {pre:List (List D)} {ys:List Operand} {ty:List TypeId} {post:List (List D)} (ha:args.toList = xs ++ .const (.slice none 0 0) :: ys) (hpre:aargs cfg (fun k => look k s.heap) s.regs xs tx = some pre) (hr:qO s.regs xs = []) (hpost:aargs cfg (fun k => look k s.heap) s.regs ys ty = some post) (hr2:qO s.regs ys = [])
  {rs:List Res} (hfn:AFn P g (pre ++ [.raw (.slice none 0 0)] :: post) (· = rs)) (hfr:(qZ d rs).2.all (fun p => fresh s p.1) = true)
  (h:qW P cfg M ops l Q (s.got d rs)):qW P cfg M ops (o :: l) Q s:=by
 intro w0 Ok σ a w Q' hM hS hQ
 refine wpList_step (fun K hK => ?_)
 rw [xZ hS hb]
 simp only [if_true]
 have hrel:qH (Zn σ s.heap w) w (pre ++ [.raw (.slice none 0 0)] :: post) (args.toList.map a.eval):=by
  rw [ha,List.map_append]
  exact qH.join ((kC C hS hpre).2 hr) ⟨_,_,rfl,yU.2 ⟨rfl,rfl⟩,(kC C hS hpost).2 hr2⟩
 refine n_callR C hS (key:=d) ho hf hrel hfn (fun rs' e => e ▸ fun q ob hq => kY (List.all_eq_true.1 hfr _ (yT hq))) (fun rs' e v w' σ' hv hS' => ?_)
 subst e
 rw [hod]
 have hsub:∀ k o',look k (yQ (qZ d rs').2 s.heap) = some o'→look k ((qZ d rs').2 ++ s.heap) = some o':=fun k o' ho' => by rw [kH] at ho';exact ho'
 exact hK _ _ (h w0 Ok σ' _ _ Q' hM (Sim.ins (hS'.forget (fun _ _ h => h) hsub) hdN (hv.sub hsub)) hQ)
end
noncomputable def atOwn (A:List (List D)) (k:Nat) (X:List (List D)) (B:List (List D)) (R:List Res) (a:List (List D)) (k':Nat) (x:List (List D)) (b:List (List D)):Option (List Res × Option (List (List D))):=by
 classical
 exact if a = A∧k' = k∧x = X∧b = B then some (R,Option.none) else Option.none
theorem atOwn_eq (A:List (List D)) (k:Nat) (X:List (List D)) (B:List (List D)) (R:List Res):atOwn A k X B R A k X B = some (R,Option.none):=by
 unfold atOwn;rw [if_pos ⟨rfl,rfl,rfl,rfl⟩]
theorem atOwn_some {A:List (List D)} {k:Nat} {X:List (List D)} {B:List (List D)} {R:List Res} {a:List (List D)} {k':Nat} {x b:List (List D)} {r:List Res × Option (List (List D))} (h:atOwn A k X B R a k' x b = some r):a = A∧k' = k∧x = X∧b = B∧r = (R,Option.none):=by
 unfold atOwn at h
 split at h
 ·rename_i h1
  exact ⟨h1.1,h1.2.1,h1.2.2.1,h1.2.2.2,(Option.some.inj h).symm⟩
 ·exact nomatch h
noncomputable def Tab.own' {P:Program} (T:Tab P) (g:FuncId) (n:Nat) {A:List (List D)} {k:Nat} {X B:List (List D)} {R:List Res} (h:AOw P g A k X B (· = R)):Tab P :=
 T.own g ⟨false,n,atOwn A k X B R⟩ (fun pre k' xs post r _ e => by
  obtain ⟨rfl,rfl,rfl,rfl,rfl⟩:=atOwn_some e
  exact h.toEf)
end
section
theorem foldS_len {α:Type} (f:α→List Spl) (m:α→Nat):∀ (bs:List α) (A:List Spl),(∀ b ∈ bs,(f b).length ≤ 2 ^ m b)→(foldS A (bs.map f)).length ≤ A.length * 2 ^ (bs.map m).sum
 | [],A,_ => by simp [foldS]
 | b :: bs,A,h => by
  have h1:=foldS_len f m bs (A.flatMap fun s => (f b).map (catS s)) (fun x hx => h x (by simp [hx]))
  have h2:(A.flatMap fun s => (f b).map (catS s)).length = A.length * (f b).length:=by
   clear h1
   induction A with
   | nil => simp
   | cons a A ih => rw [List.flatMap_cons,List.length_append,ih,List.length_map,List.length_cons,Nat.succ_mul,Nat.add_comm]
  rw [h2] at h1
  have e:((b :: bs).map m).sum = m b + (bs.map m).sum:=by simp
  rw [e,Nat.pow_add]
  refine Nat.le_trans h1 ?_
  rw [← Nat.mul_assoc]
  exact Nat.mul_le_mul_right _ (Nat.mul_le_mul_left _ (h b (by simp)))
theorem xS:∀ (n:Nat) {t:List Int},t.length ≤ n→qY t→(split t).length ≤ 2 ^ t.length
 | 0,t,hn,h => by have:=h.pos;omega
 | n + 1,t,hn,h => by
  rw [kI h,List.length_append,List.length_map,List.length_singleton]
  have h1:=foldS_len split List.length (brs t) [([],[])] (fun b hb => xS n (by have:=yC h b hb;omega) (jK h b hb))
  have hb:=kX h
  have h2:(prodS ((brs t).map split)).length ≤ 2 ^ qQ (brs t):=by
   have:(foldS [([],[])] ((brs t).map split)).length ≤ 1 * 2 ^ qQ (brs t):=h1
   rw [Nat.one_mul] at this;exact this
  rw [← hb,Nat.pow_succ]
  have:0 < 2 ^ qQ (brs t):=Nat.pow_pos (by decide)
  omega
theorem prod_len {bs:List (List Int)} (h:∀ b ∈ bs,qY b) (h8:qQ bs ≤ 8):(prodS (bs.map split)).length ≤ 256:=by
 have h1:=foldS_len split List.length bs [([],[])] (fun b hb => xS _ (Nat.le_refl _) (h b hb))
 have h2:(prodS (bs.map split)).length ≤ 2 ^ qQ bs:=by
  have:(foldS [([],[])] (bs.map split)).length ≤ 1 * 2 ^ qQ bs:=h1
  rw [Nat.one_mul] at this;exact this
 exact Nat.le_trans h2 (Nat.pow_le_pow_right (by decide) h8)
theorem wU {bs:List (List Int)} (h:∀ b ∈ bs,qY b):∀ s ∈ prodS (bs.map split),yP (qQ bs) s:=fun s hs => by
 have:=qV0 split List.length bs [([],[])] 0 (fun b hb => xR _ (Nat.le_refl _) (h b hb)) (fun s hs => by
  obtain rfl:=List.mem_singleton.1 hs
  exact ⟨by simp,rfl⟩) s hs
 rw [Nat.zero_add] at this
 exact this
theorem yP.nrm {n:Nat} {s:Spl} (h:yP n s):yP n (nrmS s):=by
 refine ⟨fun t ht => h.1 t ?_,?_⟩
 ·unfold nrmS at ht
  simp only [List.mem_append,yA] at ht ⊢
  exact ht
 ·unfold nrmS
  simp only
  rw [kL (jP _),kL (jP _)]
  exact h.2
theorem len_sum:∀ {f:List (List Int)},(∀ t ∈ f,qY t)→f.length ≤ qQ f
 | [],_ => Nat.le_refl _
 | t :: f,h => by
  have h1:=(h t (by simp)).pos
  have h2:=len_sum (f:=f) (fun x hx => h x (by simp [hx]))
  have:qQ (t :: f) = t.length + qQ f:=rfl
  rw [this,List.length_cons];omega
theorem yP.ha {n:Nat} {s:Spl} (h:yP n s) (hn:n ≤ 9):HaS s:=by
 have h1:=len_sum (f:=s.1) (fun t ht => (h.1 t (by simp [ht])).1)
 have h2:=len_sum (f:=s.2) (fun t ht => (h.1 t (by simp [ht])).1)
 have h3:=h.2
 exact ⟨⟨by omega,by omega⟩,⟨by omega,by omega⟩⟩
theorem gath_ok {L:List Spl} {n:Nat} (hL:∀ s ∈ L,yP n s) (hn:n ≤ 9):∀ p ∈ gathS L,1 ≤ p.2∧HaS p.1:=fun p hp => by
 have h:=yV L
 refine ⟨(h.cnt p hp).1,?_⟩
 obtain ⟨s,hs,e⟩:=List.mem_map.1 (h.key p hp)
 rw [← e]
 exact (hL s hs).nrm.ha hn
theorem vO {L:List Spl} {n:Nat} (hL:∀ s ∈ L,yP n s):∀ p ∈ gathS L,1 ≤ p.2∧p.2 ≤ L.length∧yP n p.1:=fun p hp => by
 have h:=yV L
 have hc:=h.cnt p hp
 rw [List.length_map] at hc
 refine ⟨hc.1,hc.2,?_⟩
 obtain ⟨s,hs,e⟩:=List.mem_map.1 (h.key p hp)
 rw [← e]
 exact (hL s hs).nrm
theorem gath_exp (L:List Spl):(expN (gathS L)).length = L.length:=by rw [(yV L).2.length_eq,List.length_map]
theorem gath_one:gathS [([],[])] = [(([],[]),1)]:=IsN.ext xB (yV _) one_is (List.Perm.refl _)
theorem prodS_snoc (Ls:List (List Spl)) (L:List Spl):prodS (Ls ++ [L]) = (prodS Ls).flatMap fun s => L.map (catS s):=by unfold prodS;rw [List.foldl_append];rfl
theorem times_gath (Ls:List (List Spl)) (L:List Spl):timesN cmpS mulS (gathS (prodS Ls)) (gathS L) = gathS (prodS (Ls ++ [L])):=by
 refine IsN.ext xB (IsN.times xB mulS (yV _) (yV _)) (yV _) ?_
 rw [prodS_snoc,vP]
theorem mem_take {α:Type} {l:List α} {i:Nat} {P:α→Prop} (h:∀ b ∈ l,P b):∀ b ∈ l.take i,P b:=fun b hb => h b (List.mem_of_mem_take hb)
theorem sumLen_take' (l:List (List Int)) (i:Nat):qQ (l.take i) ≤ qQ l:=by
 conv => rhs;rw [← List.take_append_drop i l,kM]
 omega
theorem a_l03Parts (t:List Int) (h:qY t) (hl:t.length ≤ 1000):AFn Tryz.prog 230 [eL t] (· = [.own 1 ((brs t).map eL) true]) :=
 afn_L_oo (enters_of Tryz.func230 rfl rfl) (fun u w h' => yS0 u t w h' h (by omega))
theorem a_l03Branches (t:List Int) (h:qY t) (hc:canon t = t) (hl:t.length ≤ 1000):AFn Tryz.prog 192 [eL t] (· = [.own 1 ((sortC cmpT (brs t)).map eL) true]):=by
 have h1:=a_l03CanonB t h hl
 have h2:=a_l03Parts t h hl
 have hb:=kX h
 have h3:=a_l03Sort (brs t) (by have:=brs_few h;omega) (fun b hb' => by have:=jF hb';omega)
 rw [hc] at h1
 simp only [eL,eLL] at h1 h2 h3
 refine AFn.of_runs (qX 7) Tryz.func192 rfl rfl rfl gz ?_
 have hres:Tryz.f192.results.toList = [.tmp 2]:=rfl
 have hrts:Tryz.f192.resultTypes.toList = [36]:=rfl
 simp only [qK,qD,eL,eI,eLL,eB,Nat.zero_add,Nat.reduceAdd]
 intro M
 refine qJ.of ?_
 refine gw50 ?_
 (refine Ends.mk (by simp) (rs:=?_) (ks:=?_) hres hrts ?_ ?_ ?_;rotate_left 2;(focus (simp only [Ze,Zg,Zi,seval,reduceCtorEq,Nat.reduceEqDiff,forest];with_reducible rfl));(focus simp);focus (first|with_reducible rfl|(simp only [Zv,forest];done)))
theorem a_l05Forest_of (n:Nat) (hT:∀ b,qY b→canon b = b→b.length ≤ n→AFn Tryz.prog 132 [eL b] (· = [.val (.sl 3 ((gathS (split b)).map eSp))])) (bs:List (List Int)) (hb:∀ b ∈ bs,qY b∧canon b = b∧b.length ≤ n) (h8:qQ bs ≤ 8) :
  AFn Tryz.prog 66 [eLL bs] (· = [.val (.sl 3 ((gathS (prodS (bs.map split))).map eSp))]):=by
 have hlev:∀ b ∈ bs,qY b:=fun b hb' => (hb b hb').1
 have hbl:=len_sum hlev
 refine AFn.of_runs (qX 21) Tryz.func66 rfl rfl rfl gz ?_
 have hres:Tryz.f66.results.toList = [.tmp 2]:=rfl
 have hrts:Tryz.f66.resultTypes.toList = [33]:=rfl
 simp only [qK,qD,eL,eI,eLL,eB,Nat.zero_add,Nat.reduceAdd]
 intro M
 refine qJ.of ?_
 refine gw7 ?_
 refine qJ.frz 3 ?_
 refine qJ.fits (s0:=⟨[(0,.c (.val (.sl 1 (bs.map eL)))),(3,.c (.val (.sl 3 [[.sl 1 [],.sl 1 [],.int 1]]))),(4,.c (.val (.int 0)))],[]⟩) ?_ ?_
 ·exact gw43
 refine qJ.loop (β:=Nat) (γ:=Unit) (fun i => ⟨[(0,.c (.val (.sl 1 (bs.map eL)))),(3,.c (.val (.sl 3 ((gathS (prodS ((bs.take i).map split))).map eSp)))),(4,.c (.val (.int i)))],[]⟩) (fun i => i ≤ bs.length) (fun i => bs.length - i)
  (fun _ => ⟨[(3,.c (.val (.sl 3 ((gathS (prodS (bs.map split))).map eSp))))],[]⟩) (fun _ => True) 0 (Nat.zero_le _) ?_ ?_ ?_
 ·exact gw51 (show prodS [] = [([],[])] from rfl)
 ·intro i hi
  have hi:i ≤ bs.length:=hi
  have hw:=qL (n:=i) (by omega)
  by_cases h:i < bs.length
  ·have i1:((i:Int) < (bs.length:Int)) = True:=eq_true (by omega)
   have i2:((0:Int) ≤ (i:Int)) = True:=eq_true (by omega)
   obtain ⟨b,hbe⟩:∃ b,b = bs[i]:=⟨_,rfl⟩
   have hmem:b ∈ bs:=by rw [hbe];exact List.getElem_mem _
   have hg:(bs.map eL)[i]? = some [.sl 1 (b.map eI)]:=by rw [qI h,hbe];rfl
   have hle:(bs.map eL).length = bs.length:=List.length_map _
   obtain ⟨hb1,hb2,hb3⟩:=hb b hmem
   have hb4:b.length ≤ 8:=by have:=jF hmem;omega
   have ht:=hT b hb1 hb2 hb3
   have hX:=sumLen_take' bs i
   have hlevX:=mem_take (i:=i) hlev
   have htm:=a_l05Times (gathS (prodS ((bs.take i).map split))) (gathS (split b)) (gath_ok (wU hlevX) (by omega)) (gath_ok (xR _ (Nat.le_refl _) hb1) (by omega))
    (by rw [gath_exp];have:=prod_len hlevX (by omega);omega)
    (by rw [gath_exp];have:=xS _ (Nat.le_refl _) hb1;have h2:2 ^ b.length ≤ 2 ^ 8:=Nat.pow_le_pow_right (by decide) hb4;omega)
   rw [times_gath] at htm
   have htk:(bs.take (i + 1)).map split = (bs.take i).map split ++ [split b]:=by rw [hbe,List.take_succ_eq_append_getElem h,List.map_append];rfl
   simp only [eL] at ht
   refine gw52 (Y5 i1 i2 hg hw hle) ?_
   refine qV.on (i + 1) ⟨h,by omega⟩ ?_
   rw [htk]
   exact gw6 Y0
  ·have i1:((i:Int) < (bs.length:Int)) = False:=eq_false (by omega)
   obtain rfl:i = bs.length:=by omega
   rw [List.take_length]
   refine gw5 i1 ?_
   refine qV.out () trivial ?_
   exact gw6 Y0
 ·rintro _ _
  refine gw7 ?_
  exact gw8
theorem tree_sum {t:List Int} (h:qY t) (hc:canon t = t):(gathS (prodS ((sortC cmpT (brs t)).map split))).foldl (fun s p => putN cmpS s p.2 (rootS p.1)) [(([t],[]),1)] = gathS (split t):=by
 have hf:=spec_tree h hc (fun b => gathS (split b)) (fun b _ => yV _)
 unfold putsS at hf
 rw [spec_forest (sortC cmpT (brs t)) (fun b => gathS (split b)) (fun b _ => rfl)] at hf
 exact hf
theorem putM_is (L:List (Spl × Int)) (P:List (Spl × Int)) {M:List Spl} (hL:IsN cmpS L M) (hP:∀ p ∈ P,1 ≤ p.2):IsN cmpS (P.foldl (fun s p => putN cmpS s p.2 (rootS p.1)) L) (M ++ expN (P.map fun p => (rootS p.1,p.2))):=by
 have h2:=IsN.puts xB (P.map fun p => (rootS p.1,p.2)) hL (fun p hp => by
  obtain ⟨q,hq,rfl⟩:=List.mem_map.1 hp
  exact hP q hq)
 rw [List.foldl_map] at h2
 exact h2
theorem canon_brs {t:List Int} (h:qY t) (hc:canon t = t):∀ b ∈ brs t,canon b = b:=fun b hb => by
 have hl:∀ c ∈ sortC cmpD ((brs t).map canon),qY c:=fun c hc' => by
  rw [yA,List.mem_map] at hc'
  obtain ⟨x,hx,rfl⟩:=hc'
  exact kZ (jK h x hx)
 have e:=xP h
 rw [hc] at e
 rw [e,vK hl,yA,List.mem_map] at hb
 obtain ⟨x,hx,rfl⟩:=hb
 exact wZ (jK h x hx)
theorem root_sm {s:Spl} {n:Nat} (h:yP n s) (hn:n ≤ 8):SmS (rootS s):=by
 have h1:=(h.ha (by omega)).1.sm
 have hl:qY (qA s.2):=kE fun b hb => (h.1 b (by simp [hb])).1
 refine ⟨h1,by simp [rootS],?_⟩
 show (canon (qA s.2)).length + 0 ≤ 100
 rw [vR hl,xI]
 have:=h.2;omega
theorem a_l05Tree:∀ (n:Nat),n ≤ 8→∀ t:List Int,qY t→canon t = t→t.length ≤ n→AFn Tryz.prog 132 [eL t] (· = [.val (.sl 3 ((gathS (split t)).map eSp))])
 | 0,_,t,h,_,hn => by have:=h.pos;omega
 | n + 1,hn8,t,h,hc,hn => by
  have hsb:=kX h
  have hperm:=jP (c:=cmpT) (brs t)
  have hlev:∀ b ∈ sortC cmpT (brs t),qY b:=fun b hb => jK h b (yA.1 hb)
  have hs8:qQ (sortC cmpT (brs t)) ≤ 7:=by rw [kL hperm];omega
  have hbr:=AFn.valT (a_l03Branches t h hc (by omega))
  have hfo:=a_l05Forest_of n (fun b h1 h2 h3 => a_l05Tree n (by omega) b h1 h2 h3) (sortC cmpT (brs t)) (fun b hb => by
   have hb':=yA.1 hb
   exact ⟨jK h b hb',canon_brs h hc b hb',by have:=yC h b hb';omega⟩) (by omega)
  have how:=AFn.valT (a_l01Own t (by omega))
  have hgood:=vO (wU hlev)
  have hlen:=prod_len hlev (by omega)
  have hfin:=tree_sum h hc
  have hBl:(gathS (prodS ((sortC cmpT (brs t)).map split))).length ≤ 256:=by have:=(yV (prodS ((sortC cmpT (brs t)).map split))).len;rw [List.length_map] at this;omega
  have hBe:=gath_exp (prodS ((sortC cmpT (brs t)).map split))
  obtain ⟨B,hB⟩:∃ B,B = gathS (prodS ((sortC cmpT (brs t)).map split)):=⟨_,rfl⟩
  rw [← hB] at hgood hfin hfo hBl hBe
  have hone:IsN cmpS [((([t],[]):Spl),1)] [([t],[])]:=⟨⟨by simp,by simp⟩,List.Perm.refl _⟩
  have hF:∀ j,((B.take j).foldl (fun s p => putN cmpS s p.2 (rootS p.1)) [(([t],[]),1)]).length ≤ 1000000∧∀ q ∈ (B.take j).foldl (fun s p => putN cmpS s p.2 (rootS p.1)) [(([t],[]),1)],(1 ≤ q.2∧q.2 ≤ 1000000000)∧SmS q.1:=fun j => by
   have hP:∀ p ∈ B.take j,1 ≤ p.2∧p.2 ≤ 256∧SmS (rootS p.1):=fun p hp => by
    obtain ⟨g1,g2,g3⟩:=hgood p (List.mem_of_mem_take hp)
    exact ⟨g1,by omega,root_sm g3 (by omega)⟩
   have hi:=putM_is _ (B.take j) hone (fun p hp => (hP p hp).1)
   have hlt:(expN ((B.take j).map fun p => (rootS p.1,p.2))).length ≤ 256 * 256:=by
    have key:∀ (X:List (Spl × Int)),(∀ p ∈ X,p.2 ≤ 256)→(expN (X.map fun p => (rootS p.1,p.2))).length ≤ 256 * X.length:=by
     intro X
     induction X with
     | nil => intro _;simp [expN]
     | cons x X ih =>
      intro hx
      have h1:=ih (fun p hp => hx p (by simp [hp]))
      have h2:=hx x (by simp)
      rw [List.map_cons,jS,List.length_append,List.length_replicate,List.length_cons,Nat.mul_succ]
      show x.2.toNat + _ ≤ _
      omega
    have h1:=key (B.take j) (fun p hp => (hP p hp).2.1)
    have h2:(B.take j).length ≤ 256:=by rw [List.length_take];omega
    exact Nat.le_trans h1 (Nat.mul_le_mul_left _ h2)
   have hM:([(([t],[]):Spl)] ++ expN ((B.take j).map fun p => (rootS p.1,p.2))).length ≤ 1 + 256 * 256:=by rw [List.length_append,List.length_singleton];omega
   refine ⟨Nat.le_trans hi.len (by omega),fun q hq => ?_⟩
   have hcq:=hi.cnt q hq
   refine ⟨⟨hcq.1,by omega⟩,?_⟩
   have hk:=hi.key q hq
   rcases List.mem_append.1 hk with hk|hk
   ·rw [List.mem_singleton.1 hk]
    exact ⟨⟨by simp,by show t.length + 0 ≤ 100;omega⟩,by show SmF [];decide⟩
   ·obtain ⟨r,hr,e⟩:=expN_mem hk
    obtain ⟨p,hp,rfl⟩:=List.mem_map.1 hr
    rw [← e]
    exact (hP p hp).2.2
  simp only [eL,eLL] at hbr hfo how
  refine AFn.of_runs (qX 41) Tryz.func132 rfl rfl rfl gz ?_
  have hres:Tryz.f132.results.toList = [.tmp 2]:=rfl
  have hrts:Tryz.f132.resultTypes.toList = [33]:=rfl
  simp only [qK,qD,eL,eI,eLL,eB,Nat.zero_add,Nat.reduceAdd]
  intro M
  refine qJ.of ?_
  refine gw53 ?_
  refine qJ.regCut (qX 41) (Tab.none.at' 133 how) 3 (s1:=?_) ?_ ?_
  rotate_left 1
  focus (refine Work.mk ?_;simp only [Zg,Zi,seval,reduceCtorEq,Nat.reduceEqDiff];with_reducible rfl)
  simp only [List.toList_toArray,List.drop_succ_cons,List.drop_zero]
  refine qW.frzs [11] ?_
  refine qW.opsT (qX 41) (T:=Tab.none) (s':=?_) ?_ ?_
  rotate_left 1
  focus (simp only [Zg,Zi,seval,reduceCtorEq,Nat.reduceEqDiff];with_reducible rfl)
  refine gw54 ?_
  refine qJ.frz 4 ?_
  refine qJ.fits (s0:=⟨[(3,.c (.val (.sl 3 (B.map eSp)))),(4,.c (.val (.sl 3 [[.sl 1 [[.sl 1 (t.map eI)]],.sl 1 [],.int 1]]))),(5,.c (.val (.int 0)))],[]⟩) ?_ ?_
  ·exact gw43
  refine qJ.loop (β:=Nat) (γ:=Unit) (fun j => ⟨[(3,.c (.val (.sl 3 (B.map eSp)))),(4,.c (.val (.sl 3 (((B.take j).foldl (fun s p => putN cmpS s p.2 (rootS p.1)) [(([t],[]),1)]).map eSp)))),(5,.c (.val (.int j)))],[]⟩) (fun j => j ≤ B.length) (fun j => B.length - j)
   (fun _ => ⟨[(4,.c (.val (.sl 3 ((gathS (split t)).map eSp))))],[]⟩) (fun _ => True) 0 (Nat.zero_le _) ?_ ?_ ?_
  ·exact gw55
  ·intro i hi
   have hi:i ≤ B.length:=hi
   have hw:=qL (n:=i) (by omega)
   by_cases h':i < B.length
   ·have i1:((i:Int) < (B.length:Int)) = True:=eq_true (by omega)
    have i2:((0:Int) ≤ (i:Int)) = True:=eq_true (by omega)
    obtain ⟨z,hz⟩:∃ z,z = B[i]:=⟨_,rfl⟩
    have hgz:=hgood B[i] (List.getElem_mem _)
    rw [← hz] at hgz
    obtain ⟨g1,g2,g3⟩:=hgz
    have hgz:=(g3.ha (by omega)).2.sm
    have hlz:∀ b ∈ z.1.2,qY b:=fun b hb => (g3.1 b (by simp [hb])).1
    have hroot:=AFn.valT (a_l03Root z.1.2 hgz hlz)
    have hst:(B.take (i + 1)).foldl (fun s p => putN cmpS s p.2 (rootS p.1)) [(([t],[]),1)] = putN cmpS ((B.take i).foldl (fun s p => putN cmpS s p.2 (rootS p.1)) [(([t],[]),1)]) z.2 (rootS z.1):=by
     rw [hz,List.take_succ_eq_append_getElem h',List.foldl_append];rfl
    have hFi:=hF i
    obtain ⟨K,hK⟩:∃ K,K = (B.take i).foldl (fun s p => putN cmpS s p.2 (rootS p.1)) [(([t],[]),1)]:=⟨_,rfl⟩
    rw [← hK] at hst hFi ⊢
    have hput:=a_l05Put K z.2 (rootS z.1) hFi.1 hFi.2 ⟨g1,by omega⟩ (root_sm g3 (by omega))
    have hg:(B.map eSp)[i]? = some [.sl 1 (z.1.1.map eL),.sl 1 (z.1.2.map eL),.int z.2]:=by rw [qI h',hz];rfl
    have hle:(B.map eSp).length = B.length:=List.length_map _
    simp only [eLL,rootS,eSp,eL,List.map_cons,List.map_nil] at hroot hput
    refine gw56 (Y5 i1 i2 hg hw hle) ?_
    refine qV.on (i + 1) ⟨h',by omega⟩ ?_
    rw [hst]
    exact gw57
   ·have i1:((i:Int) < (B.length:Int)) = False:=eq_false (by omega)
    obtain rfl:i = B.length:=by omega
    rw [List.take_length,hfin]
    refine gw58 i1 ?_
    refine qV.out () trivial ?_
    exact gw6 Y0
  ·rintro _ _
   refine gw54 ?_
   exact gw8
end
section
theorem tmod_mP (n:Int):((n.tmod 10007) + 10007).tmod 10007 = mP n:=by
 have h1:n.tmod 10007 = if 0 ≤ n then n % 10007 else -((-n) % 10007):=by
  split
  ·rename_i h;exact Int.tmod_eq_emod_of_nonneg h
  ·rename_i h
   have:=Int.neg_tmod (-n) 10007
   rw [Int.neg_neg] at this
   rw [this,Int.tmod_eq_emod_of_nonneg (by omega)]
 rw [h1]
 unfold mP
 split
 ·rw [Int.tmod_eq_emod_of_nonneg (by omega)];omega
 ·rw [Int.tmod_eq_emod_of_nonneg (by omega)];omega
theorem tmod_bd (n:Int):-10007 < n.tmod 10007∧n.tmod 10007 < 10007:=by
 have h1:n.tmod 10007 = if 0 ≤ n then n % 10007 else -((-n) % 10007):=by
  split
  ·rename_i h;exact Int.tmod_eq_emod_of_nonneg h
  ·rename_i h
   have:=Int.neg_tmod (-n) 10007
   rw [Int.neg_neg] at this
   rw [this,Int.tmod_eq_emod_of_nonneg (by omega)]
 rw [h1];split <;> omega
theorem z10007:((10007:Int) = 0) = False:=eq_false (by decide)
theorem a_num (n:Int):AFn Tryz.prog 92 [eI n] (· = [.val (.int (mP n))]):=by
 have hb:=tmod_bd n
 have hw:w64 (n.tmod 10007 + 10007) = n.tmod 10007 + 10007:=jN (by omega)
 rw [← tmod_mP n]
 refine AFn.of_runs (qX 7) Tryz.func92 rfl rfl rfl gz ?_
 have hres:Tryz.f92.results.toList = [.tmp 2]:=rfl
 have hrts:Tryz.f92.resultTypes.toList = [2]:=rfl
 simp only [qK,qD,eL,eI,eLL,eB,Nat.zero_add,Nat.reduceAdd]
 intro M
 refine qJ.of ?_
 refine gw59 hw ?_
 exact gw8
theorem a_l01Mod (n:Int):AFn Tryz.prog 99 [eI n] (· = [.val (.int (mP n))]):=by
 have hb:=tmod_bd n
 have hw:w64 (n.tmod 10007 + 10007) = n.tmod 10007 + 10007:=jN (by omega)
 rw [← tmod_mP n]
 refine AFn.of_runs (qX 7) Tryz.func99 rfl rfl rfl gz ?_
 have hres:Tryz.f99.results.toList = [.tmp 2]:=rfl
 have hrts:Tryz.f99.resultTypes.toList = [2]:=rfl
 simp only [qK,qD,eL,eI,eLL,eB,Nat.zero_add,Nat.reduceAdd]
 intro M
 refine qJ.of ?_
 refine gw59 hw ?_
 exact gw8
noncomputable def TMod:Tab Tryz.prog:=Tab.none.add 99 (tab1 codI fun n => some [.val (.int (mP n))]) (xY fun n rs h => by cases h;exact a_l01Mod n)
theorem a_l01Add (a b:Int) (h:-9223372036854775808 ≤ a + b∧a + b ≤ 9223372036854775807):AFn Tryz.prog 162 [eI a,eI b] (· = [.val (.int (mP (a + b)))]):=by
 have hw:=jN h
 refine AFn.of_runs (qX 9) Tryz.func162 rfl rfl rfl gz ?_
 have hres:Tryz.f162.results.toList = [.tmp 4]:=rfl
 have hrts:Tryz.f162.resultTypes.toList = [2]:=rfl
 simp only [qK,qD,eL,eI,eLL,eB,Nat.zero_add,Nat.reduceAdd]
 intro M
 refine qJ.of ?_
 refine gw60 hw ?_
 exact gw8
theorem a_l01Mul (a b:Int) (h:-9223372036854775808 ≤ a * b∧a * b ≤ 9223372036854775807):AFn Tryz.prog 98 [eI a,eI b] (· = [.val (.int (mP (a * b)))]):=by
 have hw:=jN h
 refine AFn.of_runs (qX 9) Tryz.func98 rfl rfl rfl gz ?_
 have hres:Tryz.f98.results.toList = [.tmp 4]:=rfl
 have hrts:Tryz.f98.resultTypes.toList = [2]:=rfl
 simp only [qK,qD,eL,eI,eLL,eB,Nat.zero_add,Nat.reduceAdd]
 intro M
 refine qJ.of ?_
 refine gw60 hw ?_
 exact gw8
end
section
section
variable {β:Type} {S:Rep β} {w:World}
theorem jT.partAt {v:Value} {xs:List (Int × β)} {F:List Nat} (h:jT (RS (RP RI S)) F w [v] xs) (hS:S.k = 1) (i:Nat) (hi:i < xs.length) :
  ∃ g cap s G,v = .slice (some ⟨g,0,none⟩) xs.length cap∧xs.length ≤ cap∧cap ≤ 9223372036854775807∧g < w.heap.size∧w.cell? ⟨g,i * 2,none⟩ = some (.int .i64 xs[i].1)∧w.cell? ⟨g,i * 2 + 1,none⟩ = some s∧w.frozen? ⟨g,i * 2,none⟩ = false ∧
   jT S G w [s] xs[i].2∧(∀ b,b ∈ G→b ∈ F∧b ≠ g) ∧
   (∀ n,qC n→jT (RS (RP RI S)) F (w.setCell ⟨g,i * 2,none⟩ (.int .i64 n)) [v] (xs.set i (n,xs[i].2))∧ChgF F w (w.setCell ⟨g,i * 2,none⟩ (.int .i64 n))) ∧
   (∀ (w':World) (y:β),jT S G w' [s] y→ChgF G w w'→jT (RS (RP RI S)) F w' [v] (xs.set i (xs[i].1,y))∧ChgF F w w'):=by
 have hlt:=h.lt
 have hnd:=h.2
 have hk2:(RP RI S).k = 2:=by show 1 + S.k = 2;omega
 obtain ⟨g,cap,d1,c,d2,F1,G0,F2,hv,hc1,hc2,rfl,hcl,hd1,hx,hrow,hK⟩:=h.lens i hi
 rw [hk2] at hd1 hrow
 have hx0:=hx
 obtain ⟨c1,c2,Ga,G,rfl,rfl,⟨⟨rfl,hb⟩,rfl⟩,hs⟩:=hx0
 have hsl:=S.rd_len (S.own_rd hs)
 rw [hS] at hsl
 match c2,hsl with
 | [s],_ =>
 simp only [List.nil_append] at *
 have hn1:=List.nodup_cons.1 hnd
 have hn2:=List.nodup_append.1 hn1.2
 have hn3:=List.nodup_append.1 hn2.2.1
 have e1:d1 ++ ([Value.int IntKind.i64 xs[i].1] ++ [s] ++ d2) = d1 ++ (Value.int IntKind.i64 xs[i].1 :: s :: d2):=by simp
 have g1:w.cell? ⟨g,i * 2,none⟩ = some (.int .i64 xs[i].1):=hrow.cells (i * 2) _ (by rw [e1,List.getElem?_append_right (by omega),hd1];simp)
 have g2:w.cell? ⟨g,i * 2 + 1,none⟩ = some s:=hrow.cells (i * 2 + 1) _ (by rw [e1,List.getElem?_append_right (by omega),hd1];simp)
 have hGF:∀ b,b ∈ G→b ∈ g :: (F1 ++ (G ++ F2))∧b ≠ g:=fun b hb => ⟨by simp [hb],fun e => hn1.1 (by subst e;simp [hb])⟩
 refine ⟨g,cap,s,G,hv,hc1,hc2,hlt g (by simp),g1,g2,hrow.frozen _,⟨hs,hn3.1⟩,hGF,?_,?_⟩
 ·intro n hn
  obtain ⟨hst,hgr⟩:=hrow.store (i * 2) (.int .i64 n)
  have hset:(d1 ++ ([Value.int IntKind.i64 xs[i].1] ++ [s] ++ d2)).set (i * 2) (.int .i64 n) = d1 ++ ([Value.int IntKind.i64 n] ++ [s] ++ d2):=by
   rw [List.set_append_right _ _ (by omega),hd1,Nat.sub_self];rfl
  rw [hset] at hst
  have hfr:∀ b,b ≠ g→(w.setCell ⟨g,i * 2,none⟩ (.int .i64 n)).heap[b]? = w.heap[b]?:=fun b hb => heap_setCell_other w ⟨g,i * 2,none⟩ b _ hb
  refine ⟨hK _ [.int .i64 n,s] (n,xs[i].2) G (by rw [hk2];rfl) ⟨[.int .i64 n],[s],[],G,rfl,rfl,⟨⟨rfl,hn⟩,rfl⟩,S.own_frame hs (fun b hb => hfr b (hGF b hb).2)⟩ (fun b hb => hfr b ?_) (by rw [hk2];exact hst) hnd,(ChgF.of_grown hgr).mono (fun b hb => by simp at hb;simp [hb])⟩
  intro e
  subst e
  rcases List.mem_append.1 hb with h|h
  ·exact hn1.1 (by simp [h])
  ·exact hn1.1 (by simp [h])
 ·intro w' y hy hch
  have hfr:∀ b,b ∈ F1 ++ F2→w'.heap[b]? = w.heap[b]?:=by
   intro b hm
   refine hch.block b (hlt b ?_) ?_
   ·rcases List.mem_append.1 hm with hm|hm
    ·simp [hm]
    ·simp [hm]
   ·intro hG
    rcases List.mem_append.1 hm with hm|hm
    ·exact hn2.2.2 b hm b (by simp [hG]) rfl
    ·exact hn3.2.2 b hG b hm rfl
  have hrow':Row w' v 2 xs.length (d1 ++ ([Value.int IntKind.i64 xs[i].1] ++ [s] ++ d2)) (some g):=hrow.frame (fun g' hg' => by cases hg';exact hch.block g (hlt g (by simp)) (fun e => (hGF g e).2 rfl))
  exact ⟨hK _ [.int .i64 xs[i].1,s] (xs[i].1,y) G (by rw [hk2];rfl) ⟨[.int .i64 xs[i].1],[s],[],G,rfl,rfl,⟨⟨rfl,hb⟩,rfl⟩,hy.1⟩ hfr (by rw [hk2];exact hrow') hnd,hch.mono (fun b hb => (hGF b hb).1)⟩
theorem Rd.partAt {v:Value} {xs:List (Int × β)} (h:Rd (RS (RP RI S)) w [v] xs) (hS:S.k = 1) (i:Nat) (hi:i < xs.length) :
  ∃ b off cap s,v = .slice (some ⟨b,off,none⟩) xs.length cap∧b < w.heap.size∧w.cell? ⟨b,off + i * 2,none⟩ = some (.int .i64 xs[i].1)∧w.cell? ⟨b,off + i * 2 + 1,none⟩ = some s∧qC xs[i].1∧Rd S w [s] xs[i].2:=by
 have hk2:(RP RI S).k = 2:=by show 1 + S.k = 2;omega
 obtain ⟨oa,cap,ds,h1,h2,h3,h4,h5,h6⟩:=h
 simp only [List.cons.injEq,and_true] at h1
 subst h1
 obtain ⟨c,hc,hpos⟩:=h5.get i hi
 rw [hk2] at hpos
 obtain ⟨c1,c2,rfl,⟨rfl,hb⟩,hs⟩:=hc
 have hsl:=S.rd_len hs
 rw [hS] at hsl
 match c2,hsl with
 | [s],_ =>
 rcases h6 with h6|⟨b,off,rfl,hbl,hcell⟩
 ·have:=h5.len
  rw [h6,hk2] at this
  simp at this
  omega
 ·refine ⟨b,off,cap,s,rfl,hbl,hcell _ _ (hpos 0 _ rfl),(by rw [Nat.add_assoc];exact hcell _ _ (hpos 1 _ rfl)),hb,Rd.of hs⟩
end
abbrev jZ:Rep (Int × List (List Int)):=RP RI (RS (RS RI))
def qM:List (Int × List (List Int))→Nat
 | [] => 0
 | p :: ps => 1 + yE p.2 + qM ps
def yR:List (Int × List (List Int))→Int→List (Int × List (List Int))
 | [],_ => []
 | p :: ps,k => (k,yF p.2 (k + 1)) :: yR ps (k + 1 + yE p.2)
theorem qW0:∀ (ps:List (Int × List (List Int))) (k:Int),(yR ps k).length = ps.length
 | [],_ => rfl
 | p :: ps,k => by simp [yR,qW0 ps]
theorem mkd_P_get:∀ (ps:List (Int × List (List Int))) (k:Int) (i:Nat) (h:i < ps.length),(yR ps k)[i]'(by rw [qW0];exact h) = (k + qM (ps.take i),yF ps[i].2 (k + qM (ps.take i) + 1))
 | p :: ps,k,0,h => by simp [yR,qM]
 | p :: ps,k,i + 1,h => by
  simp only [yR,List.getElem_cons_succ,List.take_succ_cons]
  rw [mkd_P_get ps _ i (by simpa using h)]
  simp only [qM]
  have e:k + 1 + (yE p.2:Int) + (qM (ps.take i):Nat) = k + ((1 + yE p.2 + qM (ps.take i):Nat):Int):=by omega
  rw [e]
theorem jP0:∀ (ps qs:List (Int × List (List Int))),qM (ps ++ qs) = qM ps + qM qs
 | [],qs => by simp [qM]
 | p :: ps,qs => by simp only [List.cons_append,qM,jP0 ps qs];omega
theorem yT0 (ps:List (Int × List (List Int))) (k:Nat) (h:k < ps.length):qM (ps.take (k + 1)) = qM (ps.take k) + (1 + yE ps[k].2):=by
 rw [List.take_succ_eq_append_getElem h,jP0];simp [qM]
theorem cnt_P_take (ps:List (Int × List (List Int))) (k:Nat):qM (ps.take k) ≤ qM ps:=by
 have:qM (ps.take k ++ ps.drop k) = qM ps:=by rw [List.take_append_drop]
 rw [jP0] at this
 omega
theorem markF_P (v:Value) (xs:List (Int × List (List Int))) (F:List Nat) (k0:Int) (w:World) (h:jT (RS jZ) F w [v] xs) (hk0:0 ≤ k0) (hk:k0 + qM xs ≤ 4611686018427387904) :
  Calls Tryz.prog 27 #[v,.int .i64 k0] w fun e w' => e = .returned (.int .i64 (k0 + (qM xs:Nat)))∧jT (RS jZ) F w' [v] (yR xs k0)∧ChgF F w w':=by
 obtain ⟨oa,cap,rfl,m1,m2⟩:=h.rd.val
 unfold maxLen at m2
 have H0:=Lib.hid h
 clear h
 go_enter Tryz.func27,Tryz.ntmps27
 go_wp2_with fail
 go_loopw [1,5] (fun q i wr => ∃ (k:Nat) (z:List (Int × List (List Int))),k ≤ xs.length∧i = .int .i64 k∧q = .int .i64 (k0 + (qM (xs.take k):Nat))∧Hid (z = (yR xs k0).take k ++ xs.drop k)∧Hid (jT (RS jZ) F wr [.slice oa xs.length cap] z∧ChgF F w wr)) (fun _ i _ => xs.length - (intOf i).toNat)
 case atStart => exact ⟨0,xs,Nat.zero_le _,rfl,by simp [qM],Lib.hid (by simp),Lib.hid ⟨H0.out,ChgF.refl _ _⟩⟩
 case round =>
  obtain ⟨k,z,hkl,rfl,rfl,hz,hown⟩:=hrel
  clear H0
  by_cases hlt:k < xs.length
  ·have hml:=qW0 xs k0
   have hzl:z.length = xs.length:=by rw [hz.out];simp [hml];omega
   obtain ⟨g,cap',s,G,hv,-,-,hgl,g1,g2,hfz,hGs,hGF,hK1,hK2⟩:=hown.out.1.partAt rfl k (by omega)
   rw [hzl] at hv
   simp only [Value.slice.injEq,true_and] at hv
   obtain ⟨rfl,rfl⟩:=hv
   have hzk:z[k]'(by omega) = xs[k]:=by
    simp only [hz.out]
    rw [List.getElem_append_right (by simp [hml];omega)]
    simp [List.getElem_drop,hml]
    congr 1;omega
   have hst:=yT0 xs k hlt
   have hle:=cnt_P_take xs (k + 1)
   have hmk:=mkd_P_get xs k0 k hlt
   obtain ⟨n,hn⟩:∃ n,n = qM (xs.take k):=⟨_,rfl⟩
   rw [← hn] at hst hmk
   rw [← hn]
   have hset:z.set k (k0 + (n:Int),yF xs[k].2 (k0 + n + 1)) = (yR xs k0).take (k + 1) ++ xs.drop (k + 1):=by
    rw [hz.out,List.set_append_right _ _ (by simp [hml];omega)]
    have e:k - ((yR xs k0).take k).length = 0:=by simp [hml];omega
    rw [e,List.drop_eq_getElem_cons hlt,List.set_cons_zero,List.take_succ_eq_append_getElem (by rw [hml];exact hlt),hmk]
    simp
   obtain ⟨f1,f2⟩:=hK1 (k0 + n) (by unfold qC;omega)
   obtain ⟨W1,hW1⟩:∃ W1,W1 = wr.setCell ⟨g,k * 2,none⟩ (.int .i64 (k0 + n)):=⟨_,rfl⟩
   rw [← hW1] at f1 f2
   have hzl2:(z.set k (k0 + (n:Int),z[k].2)).length = xs.length:=by rw [List.length_set,hzl]
   obtain ⟨g',cap',s',G',hv',-,-,-,g1',g2',-,hGs',hGF',-,hK2'⟩:=f1.partAt rfl k (by omega)
   rw [hzl2] at hv'
   simp only [Value.slice.injEq,Option.some.injEq,Addr.mk.injEq,and_true,true_and] at hv'
   obtain ⟨rfl,rfl⟩:=hv'
   have hne:(⟨g,k * 2,none⟩:Addr) ≠ ⟨g,k * 2 + 1,none⟩:=by intro h;injection h;omega
   have hss:s' = s:=by
    rw [hW1,World.cell?_setCell_other _ _ _ _ hne,g2] at g2'
    exact (Option.some.inj g2').symm
   subst hss
   simp only [List.getElem_set_self,hzk] at hGs' hK2' g1 f1
   have hpf:=hst
   obtain ⟨pf,hpf'⟩:∃ pf,pf = xs[k].2:=⟨_,rfl⟩
   rw [← hpf'] at hset hst hGs' hK2'
   obtain ⟨os,cs,rfl,q1,q2⟩:=hGs'.rd.val
   unfold maxLen at q2
   have hmkF:=markF_II _ pf G' (k0 + n + 1) W1 hGs' (by omega) (by omega)
   rw [hW1] at hmkF
   have HK2:=Lib.hid hK2'
   have HSET:=Lib.hid hset
   have HST:=Lib.hid hst
   have HW1:=Lib.hid hW1
   have HF2:=Lib.hid f2
   have i1:(0:Int) ≤ (k:Int):=by omega
   have i2:(k:Int) < (xs.length:Int):=by omega
   obtain ⟨p1,hp1⟩:∃ p1,p1 = xs[k].1:=⟨_,rfl⟩
   rw [← hp1] at g1
   have hw1:IntKind.i64.wrap (k0 + (n:Int)) = k0 + n:=IntWalk.i64_in _ (by omega)
   have hw2:IntKind.i64.wrap (k0 + (n:Int) + 1) = k0 + n + 1:=IntWalk.i64_in _ (by omega)
   clear hK1 hK2 hK2' hset hst hmk hzk hzl hzl2 hn hpf hpf' f1 f2 hGs hGs' hGF hGF' hml g1' g2' hW1 hp1
   go_wp2_with fail
   refine hmkF.mono ?_
   rintro e w2 ⟨rfl,hr2,hc2⟩
   obtain ⟨k1,k2⟩:=HK2.out w2 (yF pf (k0 + n + 1)) hr2 (by rw [HW1.out];exact hc2)
   have HF:Hid (jT (RS jZ) F w2 [.slice (some ⟨g,0,none⟩) xs.length cap] ((yR xs k0).take (k + 1) ++ xs.drop (k + 1))∧ChgF F w w2):=Lib.hid ⟨by rw [List.set_set] at k1;rw [HSET.out] at k1;exact k1,hown.out.2.trans (HF2.out.trans k2)⟩
   clear k1 k2 hr2 hc2 hmkF
   go_wp2_with fail
   go_roundw
   case rel => exact ⟨k + 1,_,by omega,by go_num,by rw [HST.out];congr 1;omega,Lib.hid rfl,HF⟩
   case measure => simp [intOf] <;> omega
  ·have hfin:Hid (z = yR xs k0):=Lib.hid (by rw [hz.out,List.take_of_length_le (by rw [qW0];omega),List.drop_of_length_le (by omega),List.append_nil])
   have hf2:xs.take k = xs:=List.take_of_length_le (by omega)
   rw [hf2]
   go_wp2_with fail
   go_ret
   exact ⟨rfl,hfin.out ▸ hown.out.1,hown.out.2⟩
theorem ChgF.toChg {F:List Nat} {w w':World} {lo hi:Nat} (h:ChgF F w w') (hF:∀ b,b ∈ F→lo ≤ b∧b < hi):Chg lo hi w w' :=
 ⟨h.os,h.tape,h.output,h.size,fun k hk hne => h.block k hk (fun e => by have:=hF k e;omega)⟩
theorem mark_P (v:Value) (xs:List (Int × List (List Int))) (lo hi:Nat) (k0:Int) (w:World) (h:Own (RS jZ) lo hi w [v] xs) (hk0:0 ≤ k0) (hk:k0 + qM xs ≤ 4611686018427387904) :
  Calls Tryz.prog 27 #[v,.int .i64 k0] w fun e w' => e = .returned (.int .i64 (k0 + (qM xs:Nat)))∧Own (RS jZ) lo hi w' [v] (yR xs k0)∧Chg lo hi w w':=by
 obtain ⟨F,hF,hb⟩:=jT.of h
 refine (markF_P v xs F k0 w hF hk0 hk).mono ?_
 rintro e w' ⟨rfl,h1,h2⟩
 exact ⟨rfl,h1.to hb,h2.toChg hb⟩
theorem held_P (v:Value) (xs:List (Int × List (List Int))) (k0:Int) (w:World) (h:Rd (RS jZ) w [v] (yR xs k0)) (hk0:0 ≤ k0) (hk:k0 + qM xs ≤ 4611686018427387904) :
  Calls Tryz.prog 28 #[v,.int .i64 k0] w (jD w (.int .i64 (k0 + (qM xs:Nat)))):=by
 have hml:=qW0 xs k0
 have hAt:=fun i hi => h.partAt (S:=RS (RS RI)) rfl i hi
 obtain ⟨oa,cap,rfl,m1,m2⟩:=h.val
 unfold maxLen at m2
 have HAT:=Lib.hid hAt
 obtain ⟨N,hN⟩:∃ N,N = (yR xs k0).length:=⟨_,rfl⟩
 have hNx:N = xs.length:=by rw [hN,hml]
 rw [← hN] at m1
 rw [← hN]
 have HNN:=Lib.hid hN
 have HNX:=Lib.hid hNx
 clear h hAt hml hN hNx
 go_enter Tryz.func28,Tryz.ntmps28
 go_wp2_with fail
 go_loopw [1,5] (fun q i wr => ∃ (k:Nat),k ≤ N∧i = .int .i64 k∧q = .int .i64 (k0 + (qM (xs.take k):Nat))∧wr = w) (fun _ i _ => N - (intOf i).toNat)
 case atStart => exact ⟨0,Nat.zero_le _,rfl,by simp [qM],rfl⟩
 case round =>
  obtain ⟨k,hkl,rfl,rfl,rfl⟩:=hrel
  by_cases hlt:k < N
  ·have hltm:k < (yR xs k0).length:=by rw [← HNN.out];exact hlt
   have hltx:k < xs.length:=by rw [← HNX.out];exact hlt
   obtain ⟨b,off,cap',s,hv,hb,g1,g2,_,hrd⟩:=HAT.out k hltm
   rw [← HNN.out] at hv
   simp only [Value.slice.injEq,true_and] at hv
   obtain ⟨rfl,rfl⟩:=hv
   have hgt:=mkd_P_get xs k0 k hltx
   rw [hgt] at g1 hrd
   have hst:=yT0 xs k hltx
   have hle:=cnt_P_take xs (k + 1)
   obtain ⟨n,hn⟩:∃ n,n = qM (xs.take k):=⟨_,rfl⟩
   rw [← hn] at hst g1 hrd
   rw [← hn]
   obtain ⟨pf,hpf⟩:∃ pf,pf = xs[k].2:=⟨_,rfl⟩
   rw [← hpf] at hst hrd
   obtain ⟨os,cs,rfl,q1,q2⟩:=hrd.val
   have hh:=held_II _ pf (k0 + n + 1) wr hrd (by omega) (by omega)
   have HST:=Lib.hid hst
   have i1:(0:Int) ≤ (k:Int):=by omega
   have i2:(k:Int) < (N:Int):=by omega
   have i3:¬ (k0 + (n:Int) + 1 + (yE pf:Nat) < 0):=by omega
   have i4:(k0 + (n:Int) != k0 + n) = false:=by simp
   have hw1:IntKind.i64.wrap (k0 + (n:Int)) = k0 + n:=IntWalk.i64_in _ (by omega)
   have hw2:IntKind.i64.wrap (k0 + (n:Int) + 1) = k0 + n + 1:=IntWalk.i64_in _ (by omega)
   obtain ⟨cf,hcf⟩:∃ cf,cf = yE pf:=⟨_,rfl⟩
   rw [← hcf] at hh i3 HST
   clear hrd hgt hn hpf hst hcf q1
   go_wp2_with fail
   refine hh.mono ?_
   rintro e w2 ⟨rfl,rfl⟩
   go_wp2_with fail
   go_roundw
   case rel => exact ⟨k + 1,by omega,by go_num,by rw [HST.out];congr 1;omega,(by first|rfl|trivial)⟩
   case measure => simp [intOf];omega
  ·have hf2:xs.take k = xs:=List.take_of_length_le (by rw [← HNX.out];omega)
   rw [hf2]
   go_wp2_with fail
   go_ret
   exact ⟨rfl,rfl⟩
theorem eqv_Part (s1 s2:Value) (n:Int) (f:List (List Int)) (w:World) (h1:Rd (RS (RS RI)) w [s1] f) (h2:Rd (RS (RS RI)) w [s2] f) :
  Calls Tryz.prog 78 #[.agg #[.int .i64 n,s1],.agg #[.int .i64 n,s2]] w (RetV w (.bool true)):=by
 obtain ⟨o1,c1,rfl,_,_⟩:=h1.val
 obtain ⟨o2,c2,rfl,_,_⟩:=h2.val
 have H1:=Lib.hid h1
 have H2:=Lib.hid h2
 have hne:(n != n) = false:=by simp
 clear h1 h2
 go_enter Tryz.func78,Tryz.ntmps78
 go_wp2_with fail
 have b1:Below w.heap.size w (w.alloc (.cells #[.int .i64 n,.slice o1 f.length c1] 71)):=(Below.refl _ _).alloc (Nat.le_refl _) _
 have b2:Below w.heap.size w ((w.alloc (.cells #[.int .i64 n,.slice o1 f.length c1] 71)).alloc (.cells #[.int .i64 n,.slice o2 f.length c2] 71)):=b1.alloc (by simp) _
 refine (eqv_II _ _ f _ (H1.out.below b2 (Nat.le_refl _)) (H2.out.below b2 (Nat.le_refl _))).mono ?_
 rintro e w' ⟨rfl,b3⟩
 go_wp2_with fail
 go_ret
 exact ⟨rfl,b2.trans (b3.mono b2.size)⟩
theorem eqv_P (v1 v2:Value) (xs:List (Int × List (List Int))) (w:World) (h1:Rd (RS jZ) w [v1] xs) (h2:Rd (RS jZ) w [v2] xs) :
  Calls Tryz.prog 26 #[v1,v2] w (RetV w (.bool true)):=by
 have a1:=fun i hi => h1.partAt (S:=RS (RS RI)) rfl i hi
 have a2:=fun i hi => h2.partAt (S:=RS (RS RI)) rfl i hi
 obtain ⟨oa,cap,rfl,m1,m2⟩:=h1.val
 obtain ⟨ob,cap2,rfl,m3,m4⟩:=h2.val
 unfold maxLen at m2 m4
 have A1:=Lib.hid a1
 have A2:=Lib.hid a2
 have hne:((xs.length:Int) != (xs.length:Int)) = false:=by simp
 have EG:=Lib.hid (enters (P:=Tryz.prog) (f:=78) Tryz.func78 (by kernel_rfl) rfl)
 clear h1 h2 a1 a2
 go_enter Tryz.func26,Tryz.ntmps26
 go_wp2_with fail
 go_loopw [5] (fun i wr => ∃ k:Nat,k ≤ xs.length∧i = .int .i64 k∧Below w.heap.size w wr) (fun i _ => xs.length - (intOf i).toNat)
 case atStart => exact ⟨0,Nat.zero_le _,rfl,Below.refl _ _⟩
 case round =>
  obtain ⟨k,hk,rfl,hbel⟩:=hrel
  have hsz1:=hbel.size
  by_cases hlt:k < xs.length
  ·obtain ⟨b1,f1,c1,s1,hv1,hb1,g1,g2,_,r1⟩:=A1.out k hlt
   obtain ⟨b2,f2,c2,s2,hv2,hb2,g3,g4,_,r2⟩:=A2.out k hlt
   simp only [Value.slice.injEq,true_and] at hv1 hv2
   obtain ⟨rfl,rfl⟩:=hv1
   obtain ⟨rfl,rfl⟩:=hv2
   have k1:=(hbel.cell (p:=⟨b1,f1 + k * 2,none⟩) hb1).trans g1
   have k2:=(hbel.cell (p:=⟨b1,f1 + k * 2 + 1,none⟩) hb1).trans g2
   have k3:=(hbel.cell (p:=⟨b2,f2 + k * 2,none⟩) hb2).trans g3
   have k4:=(hbel.cell (p:=⟨b2,f2 + k * 2 + 1,none⟩) hb2).trans g4
   obtain ⟨n,hn⟩:∃ n,n = xs[k].1:=⟨_,rfl⟩
   obtain ⟨f,hf⟩:∃ f,f = xs[k].2:=⟨_,rfl⟩
   rw [← hn] at k1 k3
   rw [← hf] at r1 r2
   obtain ⟨o1,d1,rfl,_,_⟩:=r1.val
   obtain ⟨o2,d2,rfl,_,_⟩:=r2.val
   have HEQ:Hid (∀ W:World,W.heap = wr.heap→Calls Tryz.prog 78 #[.agg #[.int .i64 n,.slice o1 f.length d1],.agg #[.int .i64 n,.slice o2 f.length d2]] W (RetV W (.bool true))):=Lib.hid (fun W hW => eqv_Part _ _ n f W ((r1.below hbel (Nat.le_refl _)).of_heap hW) ((r2.below hbel (Nat.le_refl _)).of_heap hW))
   have i1:(0:Int) ≤ (k:Int):=by omega
   have i2:(k:Int) < (xs.length:Int):=by omega
   clear g1 g2 g3 g4 r1 r2 hn hf
   go_wp2_with fail
   go_region_law ((refine step_call rfl 78 _ _ rfl EG.out #[.agg #[.int .i64 n,.slice o1 f.length d1],.agg #[.int .i64 n,.slice o2 f.length d2]] (by simp [Act.eval]) ?_;refine Calls.mono (HEQ.out _ (by rfl)) ?_;rintro e w2 ⟨rfl,b3⟩;have b3':Below wr.heap.size wr w2:=⟨b3.os,b3.tape,b3.output,b3.size,b3.block⟩;refine ⟨_,rfl,?_⟩))
   all_goals
    have hb4:=hbel.trans (b3'.mono hsz1)
    go_wp2_with fail
    go_roundw
    case rel => exact ⟨k + 1,by omega,by go_num,hb4⟩
    case measure => simp [intOf] <;> omega
  ·go_wp2_with fail
   go_ret
   exact ⟨rfl,hbel⟩
end
section
section
variable {β:Type} {S:Rep β} {w:World}
end
end
section
section
variable {β:Type} {S:Rep β} {w:World}
theorem Own.setPart {v:Value} {xs:List (Int × β)} {lo hi:Nat} (h:Own (RS (RP RI S)) lo hi w [v] xs) (hS:S.k = 1) (i:Nat) (hi':i < xs.length) :
  ∃ g cap,v = .slice (some ⟨g,0,none⟩) xs.length cap∧xs.length ≤ cap∧cap ≤ 9223372036854775807∧lo ≤ g∧g < hi∧g < w.heap.size ∧
   ∀ (w1:World) (y:Int × β) (u:Value) (M hi2:Nat),qC y.1→Own S M hi2 w1 [u] y.2→hi ≤ M→M ≤ hi2→Below hi w w1 →
    (∃ a b,w1.cell? ⟨g,i * 2,none⟩ = some a∧w1.cell? ⟨g,i * 2 + 1,none⟩ = some b)∧w1.frozen? ⟨g,i * 2,none⟩ = false∧w1.frozen? ⟨g,i * 2 + 1,none⟩ = false ∧
    Own (RS (RP RI S)) lo hi2 ((w1.setCell ⟨g,i * 2,none⟩ (.int .i64 y.1)).setCell ⟨g,i * 2 + 1,none⟩ u) [v] (xs.set i y)∧Chg lo hi w1 ((w1.setCell ⟨g,i * 2,none⟩ (.int .i64 y.1)).setCell ⟨g,i * 2 + 1,none⟩ u):=by
 have hk2:(RP RI S).k = 2:=by show 1 + S.k = 2;omega
 obtain ⟨og,ds,F,hrow,hel,hF,hlt⟩:=h.open
 obtain ⟨g,rfl⟩:=hrow.some_of hi'
 obtain ⟨cap,hv,hc1,hc2⟩:=hrow.slice
 obtain ⟨d1,c0,d2,F1,G,F2,rfl,rfl,hd1,hL1,hx,hL2⟩:=hel.split i hi'
 have la:=(RP RI S).rd_len ((RP RI S).own_rd hx)
 rw [hk2] at la hd1
 match c0,la with
 | [a,b],_ =>
  have hg:=hlt g (by simp)
  have hgs:=hrow.lt g rfl
  refine ⟨g,cap,hv,hc1,by unfold maxLen at hc2;omega,hg.1,hg.2,hgs,?_⟩
  intro w1 y u M hi2 hy1 hy hiM hM2 hbel
  obtain ⟨Gy,hGy,hGyn,hGyl⟩:=hy
  have hrow1:Row w1 v (RP RI S).k xs.length (d1 ++ ([a,b] ++ d2)) (some g):=hrow.frame (fun g' hg' => by cases hg';exact hbel.block g hg.2)
  obtain ⟨s1,r1⟩:=hrow1.store (i * 2) (.int .i64 y.1)
  have hset:(d1 ++ ([a,b] ++ d2)).set (i * 2) (.int .i64 y.1) = d1 ++ ([.int .i64 y.1,b] ++ d2):=by
   rw [List.set_append_right _ _ (by omega),hd1,Nat.sub_self];rfl
  rw [hset] at s1
  obtain ⟨s2,r2⟩:=s1.store (i * 2 + 1) u
  have hset2:(d1 ++ ([.int .i64 y.1,b] ++ d2)).set (i * 2 + 1) u = d1 ++ ([.int .i64 y.1,u] ++ d2):=by
   rw [List.set_append_right _ _ (by omega),hd1,Nat.add_sub_cancel_left];rfl
  rw [hset2] at s2
  obtain ⟨W,hW⟩:∃ W,W = (w1.setCell ⟨g,i * 2,none⟩ (.int .i64 y.1)).setCell ⟨g,i * 2 + 1,none⟩ u:=⟨_,rfl⟩
  have hWh:∀ z,z ≠ g→W.heap[z]? = w1.heap[z]?:=fun z hz => by
   rw [hW,heap_setCell_other _ ⟨g,i * 2 + 1,none⟩ z u hz,heap_setCell_other _ ⟨g,i * 2,none⟩ z _ hz]
  rw [← hW] at s2 r2 ⊢
  have hne:∀ z,z ∈ F1 ++ (G ++ F2)→z ≠ g:=by
   intro z hz e;subst e
   exact (List.nodup_append.1 hF).2.2 z (by simp) z hz rfl
  have hfr:∀ z,z ∈ F1 ++ (G ++ F2)→W.heap[z]? = w.heap[z]?:=by
   intro z hz
   rw [hWh z (hne z hz)]
   exact hbel.block z (hlt z (List.mem_append_right _ hz)).2
  have hGf:∀ z,z ∈ Gy→W.heap[z]? = w1.heap[z]?:=by
   intro z hz
   have:=(hGyl z hz).1
   exact hWh z (by omega)
  have hyc:(RP RI S).own W [.int .i64 y.1,u] y Gy:=⟨[.int .i64 y.1],[u],[],Gy,rfl,rfl,⟨⟨rfl,hy1⟩,rfl⟩,S.own_frame hGy hGf⟩
  have hjoin:=ownL.join (R:=RP RI S) hi' (hL1.frame fun z hz => hfr z (by simp [hz])) hyc (hL2.frame fun z hz => hfr z (by simp [hz]))
  refine ⟨⟨a,b,hrow1.cells (i * 2) a (by rw [List.getElem?_append_right (by omega),hd1];simp),hrow1.cells (i * 2 + 1) b (by rw [List.getElem?_append_right (by omega),hd1,Nat.add_sub_cancel_left];rfl)⟩,hrow1.frozen _,hrow1.frozen _,?_,
   (Chg.of_grown r1 (fun z hz => by cases hz;exact hg)).trans (Chg.of_grown r2 (fun z hz => by cases hz;exact hg))⟩
  refine Own.mk' (og:=some g) (ds:=d1 ++ ([.int .i64 y.1,u] ++ d2)) (by rw [List.length_set];exact s2) hjoin ?_ ?_
  ·have hb:(F1 ++ F2).Nodup:=(List.nodup_append.1 hF).2.1.sublist (List.Sublist.append (List.Sublist.refl _) (List.sublist_append_right _ _))
   have hb1:=List.nodup_append.1 hb
   have hab:∀ z,z ∈ Gy→z ∉ F1 ++ F2∧z ≠ g:=by
    intro z hz
    have h1:=(hGyl z hz).1
    refine ⟨fun hm => ?_,by omega⟩
    have:=(hlt z (by
     rcases List.mem_append.1 hm with hm|hm
     ·simp [hm]
     ·simp [hm])).2
    omega
   simp only [Option.toList_some,List.singleton_append,List.nodup_cons]
   constructor
   ·intro hm
    simp only [List.mem_append] at hm
    rcases hm with hm|hm|hm
    ·exact hne g (by simp [hm]) rfl
    ·exact (hab g hm).2 rfl
    ·exact hne g (by simp [hm]) rfl
   ·refine List.nodup_append.2 ⟨hb1.1,List.nodup_append.2 ⟨hGyn,hb1.2.1,fun z hz z' hz' e => ?_⟩,fun z hz z' hz' e => ?_⟩
    ·subst e;exact (hab z hz).1 (by simp [hz'])
    ·subst e
     rcases List.mem_append.1 hz' with hz'|hz'
     ·exact (hab z hz').1 (by simp [hz])
     ·exact hb1.2.2 z hz z hz' rfl
  ·intro z hz
   simp only [List.mem_append,Option.mem_toList,Option.some.injEq] at hz
   rcases hz with hz|hz|hz|hz
   ·subst hz;omega
   ·have:=hlt z (by simp [hz]);omega
   ·have:=hGyl z hz;omega
   ·have:=hlt z (by simp [hz]);omega
end
theorem heap3a (w:World) (a b c:Go.Obj):(((w.alloc a).alloc b).alloc c).heap[w.heap.size + 1]? = some b:=by
 rw [Go.heap_alloc_old _ _ (by simp),Go.heap_alloc2_new]
theorem heap3b (w:World) (a b c:Go.Obj):(((w.alloc a).alloc b).alloc c).heap[w.heap.size + 1 + 1]? = some c:=by
 have e:((w.alloc a).alloc b).heap.size = w.heap.size + 1 + 1:=by simp
 rw [← e,Go.heap_alloc_new]
def szN:List (Int × List (List Int))→Nat
 | [] => 0
 | p :: ps => (p.2.length + qQ p.2) + szN ps
def szP (e:List (Int × List (List Int))):Prop:=e.length + szN e ≤ 1048576
theorem szN_mem:∀ {e:List (Int × List (List Int))} {p:Int × List (List Int)},p ∈ e→p.2.length + qQ p.2 ≤ szN e
 | q :: e,p,h => by
  rcases List.mem_cons.1 h with rfl|h
  ·unfold szN;omega
  ·have:=szN_mem h;unfold szN;omega
theorem cnt_le_szN:∀ (e:List (Int × List (List Int))),qM e ≤ e.length + szN e
 | [] => by simp [qM]
 | p :: e => by
  have:=cnt_le_szN e
  unfold qM szN yE
  simp only [List.length_cons]
  omega
theorem cntb_P (e:List (Int × List (List Int))) (h:szP e):qM e ≤ 1048576:=Nat.le_trans (cnt_le_szN e) h
theorem madeCells_parts (n:Nat):(madeCells (Value.agg #[.int .i64 0,.slice none 0 0]).cells (n * 2)).toList = (List.replicate n [Value.int .i64 0,Value.slice none 0 0]).flatten:=by
 exact jC0 (z:=.agg #[.int .i64 0,.slice none 0 0]) (ds:=[.int 0,.sl 1 []]) ⟨rfl,rfl⟩ (by decide) n
theorem ownL_parts {w:World}:∀ n,ownL jZ w (List.replicate n [Value.int .i64 0,Value.slice none 0 0]).flatten (List.replicate n (0,[])) []
 | 0 => ⟨rfl,rfl⟩
 | n + 1 => ⟨[.int .i64 0,.slice none 0 0],_,[],[],rfl,rfl,⟨[.int .i64 0],[.slice none 0 0],[],[],rfl,rfl,⟨⟨rfl,by show qC 0;unfold qC;omega⟩,rfl⟩,⟨.slice none 0 0,none,[],[],rfl,Row.nil w 1,⟨rfl,rfl⟩,rfl⟩⟩,ownL_parts n⟩
theorem tPartI:ST Tryz.prog 50 71 (.agg #[.int .i64 0,.slice none 0 0]) 2 32:=ST.mk' (by kernel_rfl) (by kernel_rfl) rfl (by decide)
theorem c_toPart (s:Value) (n:Int) (f:List (List Int)) (w:World) (h:Rd (RS (RS RI)) w [s] f) (hn:qC n) (hsz:szII f) :
  Calls Tryz.prog 74 #[.agg #[.int .i64 n,s]] w fun e w' => ∃ u,e = .returned (.agg #[.int .i64 n,u])∧Own (RS (RS RI)) w.heap.size w'.heap.size w' [u] f∧Below w.heap.size w w':=by
 obtain ⟨o1,c1,rfl,_,_⟩:=h.val
 have H1:=Lib.hid h
 clear h
 go_enter Tryz.func74,Tryz.ntmps74
 go_wp2_with fail
 obtain ⟨W,hW⟩:∃ W,W = ((w.alloc (.cells #[.int .i64 n,.slice o1 f.length c1] 99)).alloc (.cells #[.int .i64 0,.slice none 0 0] 71)).alloc (.cells #[.int .i64 n,.slice none 0 0] 71):=⟨_,rfl⟩
 have bW:Below w.heap.size w W:=by
  rw [hW]
  have b1:=(Below.refl w.heap.size w).alloc (Nat.le_refl _) (.cells #[.int .i64 n,.slice o1 f.length c1] 99)
  have b2:=b1.alloc b1.size (.cells #[.int .i64 0,.slice none 0 0] 71)
  exact b2.alloc b2.size (.cells #[.int .i64 n,.slice none 0 0] 71)
 have hsW:W.heap.size = w.heap.size + 3:=by rw [hW];simp
 have k1:W.heap[w.heap.size + 1]? = some (.cells #[.int .i64 0,.slice none 0 0] 71):=by rw [hW];exact heap3a _ _ _ _
 have k2:W.heap[w.heap.size + 1 + 1]? = some (.cells #[.int .i64 n,.slice none 0 0] 71):=by rw [hW];exact heap3b _ _ _ _
 rw [← hW]
 refine (to_II _ f W (H1.out.below bW (Nat.le_refl _)) hsz).mono ?_
 rintro e w2 ⟨u,rfl,o2,b2⟩
 obtain ⟨o3,c3,rfl,l1,l2⟩:=o2.val
 have k1:=(b2.block (w.heap.size + 1) (by omega)).trans k1
 have k2:=(b2.block (w.heap.size + 1 + 1) (by omega)).trans k2
 have c20:w2.cell? ⟨w.heap.size + 1 + 1,0,none⟩ = some (.int .i64 n):=by simp [World.cell?,k2]
 have c21:w2.cell? ⟨w.heap.size + 1 + 1,1,none⟩ = some (.slice none 0 0):=by simp [World.cell?,k2]
 have c10:w2.cell? ⟨w.heap.size + 1,0,none⟩ = some (.int .i64 0):=by simp [World.cell?,k1]
 have c11:w2.cell? ⟨w.heap.size + 1,1,none⟩ = some (.slice none 0 0):=by simp [World.cell?,k1]
 have f20:w2.frozen? ⟨w.heap.size + 1 + 1,0,none⟩ = false:=by simp [World.frozen?,k2]
 have f21:w2.frozen? ⟨w.heap.size + 1 + 1,1,none⟩ = false:=by simp [World.frozen?,k2]
 have f10:w2.frozen? ⟨w.heap.size + 1,0,none⟩ = false:=by simp [World.frozen?,k1]
 have f11:w2.frozen? ⟨w.heap.size + 1,1,none⟩ = false:=by simp [World.frozen?,k1]
 go_wp2_with fail
 have b3:=(((bW.trans (b2.mono (by omega))).setCell (p:=⟨w.heap.size + 1 + 1,1,none⟩) (by show w.heap.size ≤ w.heap.size + 1 + 1;omega) (.slice o3 f.length c3)).setCell (p:=⟨w.heap.size + 1,0,none⟩) (by show w.heap.size ≤ w.heap.size + 1;omega) (.int .i64 n)).setCell (p:=⟨w.heap.size + 1,1,none⟩) (by show w.heap.size ≤ w.heap.size + 1;omega) (.slice o3 f.length c3)
 have hfin:∀ z,w.heap.size + 3 ≤ z→(((w2.setCell ⟨w.heap.size + 1 + 1,1,none⟩ (.slice o3 f.length c3)).setCell ⟨w.heap.size + 1,0,none⟩ (.int .i64 n)).setCell ⟨w.heap.size + 1,1,none⟩ (.slice o3 f.length c3)).heap[z]? = w2.heap[z]?:=fun z hz => by
  rw [heap_setCell_other _ ⟨w.heap.size + 1,1,none⟩ z _ (by show z ≠ w.heap.size + 1;omega),heap_setCell_other _ ⟨w.heap.size + 1,0,none⟩ z _ (by show z ≠ w.heap.size + 1;omega),heap_setCell_other _ ⟨w.heap.size + 1 + 1,1,none⟩ z _ (by show z ≠ w.heap.size + 1 + 1;omega)]
 have o4:Own (RS (RS RI)) w.heap.size (((w2.setCell ⟨w.heap.size + 1 + 1,1,none⟩ (.slice o3 f.length c3)).setCell ⟨w.heap.size + 1,0,none⟩ (.int .i64 n)).setCell ⟨w.heap.size + 1,1,none⟩ (.slice o3 f.length c3)).heap.size (((w2.setCell ⟨w.heap.size + 1 + 1,1,none⟩ (.slice o3 f.length c3)).setCell ⟨w.heap.size + 1,0,none⟩ (.int .i64 n)).setCell ⟨w.heap.size + 1,1,none⟩ (.slice o3 f.length c3)) [.slice o3 f.length c3] f:=by
  obtain ⟨F,h1,h2,h3⟩:=o2
  refine ⟨F,(RS (RS RI)).own_frame h1 (fun z hz => hfin z (by have:=h3 z hz;omega)),h2,fun z hz => ?_⟩
  have:=h3 z hz
  have hsz3:(((w2.setCell ⟨w.heap.size + 1 + 1,1,none⟩ (.slice o3 f.length c3)).setCell ⟨w.heap.size + 1,0,none⟩ (.int .i64 n)).setCell ⟨w.heap.size + 1,1,none⟩ (.slice o3 f.length c3)).heap.size = w2.heap.size:=by simp
  omega
 refine bodyPost_ret (v:=.agg #[.int .i64 n,.slice o3 f.length c3]) ?_ rfl ⟨_,rfl,o4,b3⟩
 have hres:Tryz.f74.results = #[.cell 2 71]:=by kernel_rfl
 clear o4 b3 hfin b2 o2 bW
 simp only [results,hres]
 go_simp
theorem to_P (v:Value) (xs:List (Int × List (List Int))) (w:World) (h:Rd (RS jZ) w [v] xs) (hsz:szP xs) :
  Calls Tryz.prog 24 #[v] w (RetO (RS jZ) w xs):=by
 have hat:=fun i hi => h.partAt (S:=RS (RS RI)) rfl i hi
 obtain ⟨oa,cap,rfl,m1,m2⟩:=h.val
 unfold maxLen at m2
 have HA:=Lib.hid hat
 have hln:xs.length ≤ 1048576:=by unfold szP at hsz;omega
 have HZ:=Lib.hid hsz
 clear hat h hsz
 go_enter Tryz.func24,Tryz.ntmps24
 go_wp2_with (at_make;refine jS0 rfl _ _ 50 rfl 71 (.agg #[.int .i64 0,.slice none 0 0]) 2 32 tPartI _ _ _ _ xs.length rfl rfl rfl rfl (by omega) (by unfold maxLen;omega) ?_;rintro v1 w1 hrow0 hgr0 rfl)
 rw [madeCells_parts] at hrow0
 have hb0:Below w.heap.size w w1:=Below.of_grown hgr0 (Nat.le_refl _) (fun g hg => by cases hg)
 have HO:Hid (Own (RS jZ) w.heap.size w1.heap.size w1 [.slice (some ⟨w.heap.size,0,none⟩) xs.length xs.length] (List.replicate xs.length (0,[]))):=Lib.hid (Own.mk' (og:=some w.heap.size) (F:=[]) (ds:=(List.replicate xs.length [Value.int .i64 0,Value.slice none 0 0]).flatten) (by rw [List.length_replicate];exact hrow0) (ownL_parts xs.length) (by simp) (fun b hb => by have:=hrow0.lt w.heap.size rfl;simp at hb;omega))
 clear hrow0 hgr0
 go_wp2_with fail
 go_loopw [4] (fun i wr => ∃ (k:Nat) (z:List (Int × List (List Int))),k ≤ xs.length∧i = .int .i64 k∧Hid (z = xs.take k ++ List.replicate (xs.length - k) (0,[]))∧Hid (Own (RS jZ) w.heap.size wr.heap.size wr [.slice (some ⟨w.heap.size,0,none⟩) xs.length xs.length] z)∧Below w.heap.size w wr) (fun i _ => xs.length - (intOf i).toNat)
 case atStart => exact ⟨0,_,Nat.zero_le _,rfl,Lib.hid (by simp),HO,hb0⟩
 case round =>
  obtain ⟨k,z,hk,rfl,hz,hown,hbel⟩:=hrel
  have hsz1:=hbel.size
  clear HO
  by_cases hlt:k < xs.length
  ·obtain ⟨b,off,cap2,s,hv2,hb,g1,g2,hin,hrd⟩:=HA.out k hlt
   simp only [Value.slice.injEq,true_and] at hv2
   obtain ⟨rfl,rfl⟩:=hv2
   have g1':=(hbel.cell (p:=⟨b,off + k * 2,none⟩) hb).trans g1
   have g2':=(hbel.cell (p:=⟨b,off + k * 2 + 1,none⟩) hb).trans g2
   have hzl:z.length = xs.length:=by rw [hz.out];simp;omega
   obtain ⟨g,cap',hv,_,_,hg1,hg2,hg3,hK⟩:=hown.out.setPart (S:=RS (RS RI)) rfl k (by rw [hzl];exact hlt)
   rw [hzl] at hv
   simp only [Value.slice.injEq,Option.some.injEq,Addr.mk.injEq,and_true,true_and] at hv
   obtain ⟨rfl,rfl⟩:=hv
   have hset:z.set k xs[k] = xs.take (k + 1) ++ List.replicate (xs.length - (k + 1)) (0,[]):=by
    rw [hz.out,List.set_append_right _ _ (by simp;omega)]
    have e:k - (xs.take k).length = 0:=by simp;omega
    rw [e,show xs.length - k = (xs.length - (k + 1)) + 1 by omega,List.replicate_succ,List.set_cons_zero,List.take_succ_eq_append_getElem hlt,List.append_assoc,List.singleton_append]
   have hxl:szII xs[k].2:=by
    have h1:=szN_mem (List.getElem_mem hlt)
    have h2:=HZ.out
    unfold szP at h2
    unfold szII
    omega
   have HK:=Lib.hid hK
   have hto:=c_toPart s xs[k].1 xs[k].2 wr (hrd.below hbel (Nat.le_refl _)) hin hxl
   obtain ⟨os,cs,rfl,l1,l2⟩:=hrd.val
   obtain ⟨x,hx⟩:∃ x,x = xs[k]:=⟨_,rfl⟩
   rw [← hx] at g1' g2' hset hto hin l1
   have HSET:=Lib.hid hset
   have HIN:=Lib.hid hin
   have HTO:=Lib.hid hto
   clear g1 g2 hrd hx hset hK hto hxl hin
   go_wp2_with (go_at_call 74;refine HTO.out.mono ?_;rintro e w2 ⟨u,rfl,o2,b2⟩;obtain ⟨ou,cu,rfl,lu1,lu2⟩:=o2.val;obtain ⟨⟨a1,a2,f1,f2⟩,f3,f4,f5,f6⟩:=HK.out w2 x (.slice ou x.2.length cu) wr.heap.size w2.heap.size HIN.out o2 (Nat.le_refl _) b2.size b2;have HF:=Lib.hid f5;have hb3:Below w.heap.size w w2:=hbel.trans (b2.mono hsz1);have hb4:=(hb3.setCell (p:=⟨w.heap.size,k * 2,none⟩) (Nat.le_refl _) (.int .i64 x.1)).setCell (p:=⟨w.heap.size,k * 2 + 1,none⟩) (Nat.le_refl _) (.slice ou x.2.length cu);clear f5 f6 o2)
   go_roundw
   case rel => exact ⟨k + 1,_,by omega,by go_num,HSET,Lib.hid (HF.out.top _ (by simp)),hb4⟩
   case measure => simp [intOf];omega
  ·have hfin:Hid (z = xs):=Lib.hid (by rw [hz.out,List.take_of_length_le (by omega),show xs.length - k = 0 by omega];simp)
   go_wp2_with fail
   go_ret
   exact ⟨_,rfl,hfin.out ▸ hown.out,hbel⟩
end
section
def ePt (x:Int × List (List Int)):List D:=[.int x.1,.sl 1 (x.2.map eL)]
def codPt:Cod (Int × List (List Int)):=codP 1 codI codLL (fun _ => rfl)
def leftI (left:Int) (n:Nat):Int:=if left - n < 0 then -1 else left - n
theorem vX {left:Int} {n:Nat} (h:left - n < 0):leftI left n = -1:=by unfold leftI;rw [if_pos h]
theorem vI {left:Int} {n:Nat} (h:¬ left - n < 0):leftI left n = left - n:=by unfold leftI;rw [if_neg h]
theorem a_szInt64S (xs:List Int) (left:Int) (h0:0 ≤ left) (h1:left ≤ 1048576):AFn Tryz.prog 194 [eL xs,eI left] (· = [.val (.int (leftI left xs.length))]) :=
 AFn.of_s (v:=.int .i64 _) (enters_of Tryz.func194 rfl rfl) (fun _ _ => jW.2 ⟨rfl,by unfold leftI qC;split <;> omega⟩) (fun w A vs ⟨v1,_,e1,h1',v2,_,e2,h2,e3⟩ => by
  subst e3;subst e2;subst e1
  rw [arg_int h2]
  refine c_laws_szInt64S v1 xs left _ w (Rd.of (rd1 h1')) h0 h1 ?_
  unfold leftI
  split
  ·exact .inl ⟨‹_›,rfl⟩
  ·exact .inr ⟨by omega,rfl⟩)
noncomputable def TSz:Tab Tryz.prog:=Tab.none.add 194 (tab2 codL codI fun xs n => if 0 ≤ n∧n ≤ 1048576 then some [.val (.int (leftI n xs.length))] else none) (yS fun xs n rs h => by split at h;cases h;exact a_szInt64S xs n (‹0 ≤ n∧_›).1 (‹0 ≤ n∧_›).2;cases h)
theorem a_szInt64SS (f:List (List Int)) (left:Int) (h0:0 ≤ left) (h1:left ≤ 1048576) (hl:f.length ≤ 9223372036854775807):AFn Tryz.prog 134 [eLL f,eI left] (· = [.val (.int (leftI left (f.length + qQ f)))]):=by
 refine AFn.of_runs (qX 27) Tryz.func134 rfl rfl rfl gz ?_
 have hres:Tryz.f134.results.toList = [.tmp 4]:=rfl
 have hrts:Tryz.f134.resultTypes.toList = [3]:=rfl
 simp only [qK,qD,eL,eI,eLL,eB,Nat.zero_add,Nat.reduceAdd]
 intro M
 refine qJ.of ?_
 have hw:=jN (n:=left - (f.length:Int)) (by omega)
 by_cases hn:left - (f.length:Int) < 0
 ·have i1:(left - (f.length:Int) < 0) = True:=eq_true hn
  rw [vX (by omega)]
  refine gw61 (Yp hw i1) ?_
  exact gw8
 ·have i1:(left - (f.length:Int) < 0) = False:=eq_false hn
  refine gw61 (Yp hw i1) ?_
  refine qJ.loop (β:=Nat) (γ:=Unit) (fun i => ⟨[(0,.c (.val (.sl 1 (f.map eL)))),(1,.c (.val (.int (left - f.length - (qQ (f.take i):Nat))))),(5,.c (.val (.int i)))],[]⟩) (fun i => i ≤ f.length∧0 ≤ left - f.length - (qQ (f.take i):Nat)) (fun i => f.length - i)
   (fun _ => ⟨[(1,.c (.val (.int (left - f.length - (qQ f:Nat)))))],[]⟩) (fun _ => 0 ≤ left - f.length - (qQ f:Nat)) 0 ⟨Nat.zero_le _,by simp [qQ];omega⟩ ?_ ?_ ?_
  ·have e:left - (f.length:Int) - (qQ (f.take 0):Nat) = left - (f.length:Int):=by simp [qQ]
   rw [e]
   exact gw6 Y0
  ·rintro i ⟨hi,hpos⟩
   have hw2:=qL (n:=i) (by omega)
   by_cases h:i < f.length
   ·have i2:((i:Int) < (f.length:Int)) = True:=eq_true (by omega)
    have i3:((0:Int) ≤ (i:Int)) = True:=eq_true (by omega)
    have hst:=jD0 f i h
    have hle:=qY0 f (i + 1)
    obtain ⟨q,hq⟩:∃ q:Int,q = left - f.length - (qQ (f.take i):Nat):=⟨_,rfl⟩
    obtain ⟨t,ht⟩:∃ t,t = f[i]:=⟨_,rfl⟩
    have hg:(f.map eL)[i]? = some [.sl 1 (t.map eI)]:=by rw [qI h,ht];rfl
    rw [← ht] at hst
    rw [← hq] at hpos
    have j1:(0 ≤ q∧q ≤ 1048576) = True:=eq_true ⟨hpos,by omega⟩
    by_cases hng:q - (t.length:Int) < 0
    ·have e:=vX (left:=q) (n:=t.length) hng
     rw [vX (by omega),← hq]
     refine gw62 (Y5 i2 i3 hg j1 e) ?_
     refine qV.ret ?_
     refine gw63 ?_
     exact gw8
    ·have e:=vI (left:=q) (n:=t.length) hng
     have j2:(q - (t.length:Int) < 0) = False:=eq_false hng
     rw [← hq]
     refine gw62 (Y7 i2 i3 hg j1 j2 e hw2) ?_
     have e2:left - (f.length:Int) - (qQ (f.take (i + 1)):Nat) = q - (t.length:Int):=by omega
     refine qV.on (i + 1) ⟨⟨h,by omega⟩,by omega⟩ ?_
     rw [e2]
     exact gw6 Y0
   ·have i2:((i:Int) < (f.length:Int)) = False:=eq_false (by omega)
    have hall:f.take i = f:=List.take_of_length_le (by omega)
    rw [hall] at hpos ⊢
    refine gw61 i2 ?_
    refine qV.out () hpos ?_
    exact gw6 Y0
  ·rintro _ hpos
   have e:leftI left (f.length + qQ f) = left - f.length - (qQ f:Nat):=by rw [vI (by omega)];omega
   rw [e]
   refine gw63 ?_
   exact gw8
theorem a_szPart (n:Int) (f:List (List Int)) (left:Int) (h0:0 ≤ left) (h1:left ≤ 1048576) (hl:f.length ≤ 9223372036854775807):AFn Tryz.prog 69 [ePt (n,f),eI left] (· = [.val (.int (leftI left (f.length + qQ f)))]):=by
 have ha:=a_szInt64SS f left h0 h1 hl
 simp only [eLL,eI] at ha
 refine AFn.of_runs (qX 12) Tryz.func69 rfl rfl rfl gz ?_
 have hres:Tryz.f69.results.toList = [.tmp 4]:=rfl
 have hrts:Tryz.f69.resultTypes.toList = [3]:=rfl
 simp only [qK,qD,eL,eI,eLL,eB,Nat.zero_add,Nat.reduceAdd,ePt]
 intro M
 refine qJ.of ?_
 by_cases hn:left - ((f.length + qQ f:Nat):Int) < 0
 ·rw [vX hn] at ha ⊢
  refine gw64 Y0 ?_
  exact gw8
 ·rw [vI hn] at ha ⊢
  have i1:(left - ((f.length + qQ f:Nat):Int) < 0) = False:=eq_false hn
  refine gw64 i1 ?_
  exact gw8
theorem szN_take:∀ (e:List (Int × List (List Int))) (i:Nat) (h:i < e.length),szN (e.take (i + 1)) = szN (e.take i) + (e[i].2.length + qQ e[i].2)
 | p :: e,0,h => by simp [szN]
 | p :: e,i + 1,h => by
  have:=szN_take e i (by simpa using h)
  simp only [List.take_succ_cons,List.getElem_cons_succ,szN]
  omega
theorem szN_le:∀ (e:List (Int × List (List Int))) (i:Nat),szN (e.take i) ≤ szN e
 | [],i => by simp
 | p :: e,0 => by simp [szN]
 | p :: e,i + 1 => by
  have:=szN_le e i
  simp only [List.take_succ_cons,szN]
  omega
noncomputable def TSzP:Tab Tryz.prog:=Tab.none.add 69 (tab2 codPt codI fun p n => if (0 ≤ n∧n ≤ 1048576)∧p.2.length ≤ 9223372036854775807 then some [.val (.int (leftI n (p.2.length + qQ p.2)))] else none) (yS fun p n rs h => by split at h;cases h;exact a_szPart p.1 p.2 n (‹(0 ≤ n∧_)∧_›).1.1 (‹(0 ≤ n∧_)∧_›).1.2 (‹(0 ≤ n∧_)∧_›).2;cases h)
theorem a_szPartS (e:List (Int × List (List Int))) (left:Int) (h0:0 ≤ left) (h1:left ≤ 1048576) (hl:e.length ≤ 9223372036854775807) (hpl:∀ p ∈ e,p.2.length ≤ 9223372036854775807):AFn Tryz.prog 22 [[.sl 2 (e.map ePt)],eI left] (· = [.val (.int (leftI left (e.length + szN e)))]):=by
 refine AFn.of_runs (qX 27) Tryz.func22 rfl rfl rfl gz ?_
 have hres:Tryz.f22.results.toList = [.tmp 4]:=rfl
 have hrts:Tryz.f22.resultTypes.toList = [3]:=rfl
 simp only [qK,qD,eL,eI,eLL,eB,Nat.zero_add,Nat.reduceAdd]
 intro M
 refine qJ.of ?_
 have hw:=jN (n:=left - (e.length:Int)) (by omega)
 by_cases hn:left - (e.length:Int) < 0
 ·have i1:(left - (e.length:Int) < 0) = True:=eq_true hn
  rw [vX (by omega)]
  refine gw65 (Yp hw i1) ?_
  exact gw8
 ·have i1:(left - (e.length:Int) < 0) = False:=eq_false hn
  refine gw65 (Yp hw i1) ?_
  refine qJ.loop (β:=Nat) (γ:=Unit) (fun i => ⟨[(0,.c (.val (.sl 2 (e.map ePt)))),(1,.c (.val (.int (left - e.length - (szN (e.take i):Nat))))),(5,.c (.val (.int i)))],[]⟩) (fun i => i ≤ e.length∧0 ≤ left - (e.length:Int) - (szN (e.take i):Nat)) (fun i => e.length - i)
   (fun _ => ⟨[(1,.c (.val (.int (left - e.length - (szN e:Nat)))))],[]⟩) (fun _ => 0 ≤ left - (e.length:Int) - (szN e:Nat)) 0 ⟨Nat.zero_le _,by simp [szN];omega⟩ ?_ ?_ ?_
  ·have e2:left - (e.length:Int) - (szN (e.take 0):Nat) = left - (e.length:Int):=by simp [szN]
   rw [e2]
   exact gw6 Y0
  ·rintro i ⟨hi,hpos⟩
   have hw2:=qL (n:=i) (by omega)
   by_cases h:i < e.length
   ·have i2:((i:Int) < (e.length:Int)) = True:=eq_true (by omega)
    have i3:((0:Int) ≤ (i:Int)) = True:=eq_true (by omega)
    have hst:=szN_take e i h
    have hle:=szN_le e (i + 1)
    obtain ⟨q,hq⟩:∃ q:Int,q = left - e.length - (szN (e.take i):Nat):=⟨_,rfl⟩
    obtain ⟨c,f,ht⟩:∃ c f,(c,f) = e[i]:=⟨_,_,rfl⟩
    have hpi:=hpl e[i] (List.getElem_mem h)
    have hg:(e.map ePt)[i]? = some [.int c,.sl 1 (f.map eL)]:=by rw [qI h,← ht];rfl
    rw [← ht] at hst hpi
    simp only at hst hpi
    rw [← hq] at hpos
    have hsz:=a_szPart c f q hpos (by omega) hpi
    simp only [ePt,eI] at hsz
    by_cases hng:q - ((f.length + qQ f:Nat):Int) < 0
    ·rw [vX hng] at hsz
     rw [vX (by omega),← hq]
     refine gw66 (Y3 i2 i3 hg) ?_
     refine qV.ret ?_
     refine gw67 ?_
     exact gw8
    ·rw [vI hng] at hsz
     have j2:(q - ((f.length + qQ f:Nat):Int) < 0) = False:=eq_false hng
     rw [← hq]
     refine gw66 (Y5 i2 i3 hg j2 hw2) ?_
     have e2:left - (e.length:Int) - (szN (e.take (i + 1)):Nat) = q - ((f.length + qQ f:Nat):Int):=by omega
     refine qV.on (i + 1) ⟨⟨h,by omega⟩,by omega⟩ ?_
     rw [e2]
     exact gw6 Y0
   ·have i2:((i:Int) < (e.length:Int)) = False:=eq_false (by omega)
    have hall:e.take i = e:=List.take_of_length_le (by omega)
    rw [hall] at hpos ⊢
    refine gw68 i2 ?_
    refine qV.out () hpos ?_
    exact gw6 Y0
  ·rintro _ hpos
   have e2:leftI left (e.length + szN e) = left - e.length - (szN e:Nat):=by rw [vI (by omega)];omega
   rw [e2]
   refine gw67 ?_
   exact gw8
theorem arg_P {w:World} {u:Value} {xs:List (Int × List (List Int))} (h:Rd (RS jZ) w [u] xs):xE (· < w.heap.size) w [.sl 2 (xs.map ePt)] u:=((encS (encP encI (encS (encS encI)))).rdV (x:=xs) rfl).1 h
theorem sz_P (v:Value) (xs:List (Int × List (List Int))) (left:Int) (w:World) (h:Rd (RS jZ) w [v] xs) (h0:0 ≤ left) (h1:left ≤ 1048576) :
  Calls Tryz.prog 22 #[v,.int .i64 left] w fun e w' => ∃ r,e = .returned (.int .i64 r)∧((r < 0∧True) ∨ (0 ≤ r∧r ≤ 1048576∧szP xs))∧Below w.heap.size w w':=by
 obtain ⟨oa,cap,hv,m1,m2⟩:=h.val
 unfold maxLen at m2
 have hpl:∀ p ∈ xs,p.2.length ≤ 9223372036854775807:=fun p hp => by
  obtain ⟨i,hi,rfl⟩:=List.getElem_of_mem hp
  obtain ⟨b,off,cap,s,_,_,_,_,_,hr⟩:=h.partAt (S:=RS (RS RI)) rfl i hi
  obtain ⟨o1,c1,_,l1,l2⟩:=hr.val
  unfold maxLen at l2
  omega
 have ha:=AFn.one (v:=.int .i64 _) (fun A w u hu => (jW.1 hu).1) (a_szPartS xs left h0 h1 (by omega) hpl) (args2 (arg_P h) (arg_I (by unfold qC;omega)))
 refine ha.mono ?_
 rintro e w' ⟨rfl,hb⟩
 refine ⟨_,rfl,?_,hb⟩
 by_cases hn:left - (xs.length + szN xs:Nat) < 0
 ·rw [vX hn];exact .inl ⟨by decide,trivial⟩
 ·rw [vI hn];exact .inr ⟨by omega,by omega,by unfold szP;omega⟩
theorem opPart:xW Tryz.prog jZ 99:=by
 intro H enc w base spare held fuel cs x h
 obtain ⟨y0,y1,n,_,hl,h0,h1⟩:=Go.ChangeShapes.trod_struct2 Tryz.underlying99 h
 have c0:Tryz.prog.cellsOf 2 = 1:=by kernel_rfl
 have c1:Tryz.prog.cellsOf 36 = 1:=by kernel_rfl
 have hl2:cs.length = 2:=by rw [hl];kernel_rfl
 match cs,hl2 with
 | [a,b],_ =>
  simp only [c0,c1,List.drop_zero,List.drop_succ_cons,List.take_succ_cons,List.take_zero] at h0 h1
  obtain ⟨y,hy⟩:=opI64 _ _ _ _ _ _ _ _ _ h0
  obtain ⟨z,hz⟩:=opI64SS _ _ _ _ _ _ _ _ _ h1
  exact ⟨(y,z),[a],[b],rfl,hy,hz⟩
theorem opPartS:xW Tryz.prog (RS jZ) 48:=xW.slice Tryz.underlying48 (by kernel_rfl) opPart
end
end Go.Proofs.YtedgfkpfhonlpaaGreat

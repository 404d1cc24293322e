/- Lemmas (10). -/
import Derived.ChangeSame
import Derived.Ground.SlsfProg
import Derived.Shelf.SlSortCmp.NoneTotal
import Derived.Shelf.SlSortCmp.WholeK
import Derived.Test.YtedgfkpfhonlpaaGreatZI0
import Derived.Test.YtedgfkpfhonlpaaGreatZI1
import Derived.Test.YtedgfkpfhonlpaaGreatZI3
import Derived.Test.YtedgfkpfhonlpaaGreatZI4
import Derived.Test.YtedgfkpfhonlpaaGreatZI5
import Derived.Test.YtedgfkpfhonlpaaGreatZI6
import Derived.Test.YtedgfkpfhonlpaaGreatZI7
import Derived.Test.YtedgfkpfhonlpaaGreatZI8
import Derived.Test.YtedgfkpfhonlpaaGreatZI9
set_option maxHeartbeats 16000000
set_option maxRecDepth 100000
set_option linter.unusedSimpArgs false
set_option linter.unusedVariables false
namespace Go.Proofs.YtedgfkpfhonlpaaGreat
open Go.RowKit
theorem Row.take {w:World} {k n m cap:Nat} {ds:List Value} {og:Option Nat} (h:Row w (slv og n cap) k n ds og) (hm:m ≤ n):Row w (slv og m cap) k m (ds.take (m * k)) og:=by
 refine ⟨by rw [List.length_take,h.1];exact Nat.min_eq_left (Nat.mul_le_mul_right k hm),?_⟩
 rcases h.2 with ⟨h1,h2,h3⟩|⟨g,c,cur,e,h1,h2,h3,h4,h5,h6,h7⟩
 ·subst h3
  exact .inl ⟨rfl,by omega,rfl⟩
 ·subst h2
  have hc:cap = c:=by
   unfold slv at h1
   simp only [Value.slice.injEq] at h1
   exact h1.2.2
  subst hc
  refine .inr ⟨g,cap,cur,e,rfl,rfl,h3,by omega,h5,h6,?_⟩
  rw [← h7,List.take_take,Nat.min_eq_left (Nat.mul_le_mul_right k hm)]
section
variable {P:Program} {cfg:Cfg} {M:Nat→Prop} {w0:W0} {w w':World} {Ok:Nat→Prop} {N:Nat} {σ:Asg} {s:St} {a:Act} {ops:Array Oper}
theorem Sim.trunc (h:Sim w0 Ok N σ s a w) {key k n:Nat} {xs:List (List D)} {d:Bool} (hk:look key s.heap = some (.row k xs d)) (hn:n ≤ xs.length) (hnr:∀ q u,q ≠ key→look q s.heap = some u→key ∉ u.refs) :
  Sim w0 Ok N σ ⟨killR key s.regs,insR key (.row k (xs.take n) false) s.heap⟩ a w:=by
 have hro:=h.rows key _ hk
 obtain ⟨ds,hrow,hkp,hrd⟩:=RowOK.rd h.ok1 h.rows h.disj hk
 have hlen:(xs.take n).length = n:=by rw [List.length_take];omega
 have hfp0:∀ b ∈ fp σ key (.row k (xs.take n) false),b ∈ fp σ key (.row k xs d):=by
  intro b hb
  have hb:b ∈ (σ.g key).toList ++ []:=hb
  rw [List.append_nil] at hb
  exact List.mem_append_left _ hb
 have hl:∀ q o',look q (insR key (.row k (xs.take n) false) s.heap) = some o'→(q = key∧o' = .row k (xs.take n) false) ∨ (q ≠ key∧look q s.heap = some o'):=by
  intro q o' ho'
  rw [jJ] at ho'
  split at ho'
  ·rename_i e;cases ho';exact .inl ⟨e.symm,rfl⟩
  ·rename_i e;exact .inr ⟨fun e' => e e'.symm,ho'⟩
 have hZ:jQ σ σ s.heap (insR key (.row k (xs.take n) false) s.heap) w w:=fun b hb => ⟨⟨hb.1,hb.2.1,fun q o' ho' => by
  rcases hl q o' ho' with ⟨rfl,_⟩|⟨_,ho⟩
  ·exact hb.2.2 q _ hk
  ·exact hb.2.2 q _ ho⟩,rfl⟩
 have hst:∀ q,q ≠ key→jX σ σ s.heap (insR key (.row k (xs.take n) false) s.heap) q:=fun q hq o' ho' => by
  rcases hl q o' ho' with ⟨e,_⟩|⟨_,ho⟩
  ·exact absurd e hq
  ·exact ⟨o',ho,rfl,rfl,rfl,rfl⟩
 refine (h.killed key).step rfl h.below hZ (fun _ _ => rfl) (fun r av hr => ⟨av,hr,.inl ⟨rfl,fun q hq => hst q ?_⟩⟩) (fun q o' ho' => ?_) (fun p o1 q u hp hq hpq b hb hb' => ?_)
 ·have hr':look r (killR key s.regs) = some av:=hr
  rw [wU] at hr'
  obtain ⟨v,_,rfl⟩:=map_some hr'
  exact (AV.kill_refs hq).1
 ·rcases hl q o' ho' with ⟨rfl,rfl⟩|⟨hq,ho⟩
  ·refine ⟨⟨ds.take (n * k),?_,hkp,?_⟩,fun b hb => hro.fresh b (hfp0 b hb),?_⟩
   ·show Row w (slv (σ.g q) (xs.take n).length (σ.cap q)) k (xs.take n).length _ (σ.g q)
    rw [hlen]
    exact Row.take hrow hn
   ·show rdR k _ w _ (xs.take n)
    exact (hrd.take n hn).mono (fun b hb _ => (hZ b hb).1)
   ·show ((σ.g q).toList ++ []).Nodup
    rw [List.append_nil]
    cases σ.g q <;> simp
  ·exact RowOK.keep h.ok1 h.rows h.disj ho hZ (fun q' hq' => hst q' (fun e => hnr q o' hq ho (e ▸ hq'))) rfl rfl rfl (fun _ _ => rfl)
 ·have hp2:∃ o2,look p s.heap = some o2∧b ∈ fp σ p o2:=by
   rcases hl p o1 hp with ⟨rfl,rfl⟩|⟨_,ho⟩
   ·exact ⟨_,hk,hfp0 b hb⟩
   ·exact ⟨_,ho,hb⟩
  have hq2:∃ o2,look q s.heap = some o2∧b ∈ fp σ q o2:=by
   rcases hl q u hq with ⟨rfl,rfl⟩|⟨_,ho⟩
   ·exact ⟨_,hk,hfp0 b hb'⟩
   ·exact ⟨_,ho,hb'⟩
  obtain ⟨o2,ho2,hb2⟩:=hp2
  obtain ⟨u2,hu2,hb3⟩:=hq2
  exact h.disj p o2 q u2 ho2 hu2 hpq b hb2 hb3
theorem cellD_un {z d:D} {k:Nat} {xs:List (List D)} (h:d.un = .sl k xs):cellD z (.val d) = some (d,false):=by
 cases d with
 | sl => rfl
 | tag => rfl
 | int => cases h
 | bool => cases h
 | raw => cases h
theorem qQ.regCut (C:CfgOK P cfg) (T:Tab P) {fs:List Fr} {Q:Exit→St→Prop} {id:Nat} (n:Nat) {s1:St} (ha:Work (aopsT cfg T ops (ops.toList.take n) s) (some s1))
  (h:qY P cfg M ops (ops.toList.drop n) (outK P cfg M fs Q .normal) s1):qQ P cfg M (.region id ops false) fs Q s:=by
 refine qK.region ?_
 have e:ops.toList = ops.toList.take n ++ ops.toList.drop n:=(List.take_append_drop n _).symm
 have cut:∀ (l m:List Oper) (s:St),aopsT cfg T ops l s = some s1→qY P cfg M ops m (outK P cfg M fs Q .normal) s1→qY P cfg M ops (l ++ m) (outK P cfg M fs Q .normal) s:=by
  intro l
  induction l with
  | nil => intro m s h1 h2;simp only [aopsT,Option.some.injEq] at h1;subst h1;exact h2
  | cons o l ih =>
   intro m s h1 h2
   simp only [aopsT] at h1
   obtain ⟨s2,h3,h4⟩:=bind_some h1
   exact qY.stepT C h3 (ih m s2 h4 h2)
 rw [e]
 exact cut _ _ s ha h
theorem qY.trunc (C:CfgOK P cfg) {o:Oper} {l:List Oper} {Q:St→Prop} {x hi:Operand} {t:TypeId} {i:TyI} {d key m n k:Nat} {xs:List (List D)} {dd:Bool} (ho:o.op = .slice t x none (some hi) none) (hg:o.guard = none) (hd:o.dst = some d) (hdN:d < cfg.N)
  (ht:cfg.sl t = some i) (hx:opv s.regs x = some (.c (.own key m))) (hh:(opv s.regs hi).bind avI = some (n:Int)) (hk:look key s.heap = some (.row k xs dd)) (hle:n ≤ xs.length) (hnr:∀ q u,q ≠ key→look q s.heap = some u→key ∉ u.refs)
  (h:qY P cfg M ops l Q ⟨insR d (.c (.own key n)) (killR key s.regs),insR key (.row k (xs.take n) false) s.heap⟩):qY P cfg M ops (o :: l) Q s:=by
 intro w0 Ok σ a w Q' hM hS hQ
 refine wpList_step (fun K hK => ?_)
 have hw:qM ops s.regs o = some true:=by unfold qM;rw [hg]
 rw [yK hS hw]
 simp only [if_true]
 obtain ⟨z,T,_⟩:=C.sl t i ht
 obtain ⟨ti,hti,_,hsz,_⟩:=T.hi
 have hxr:=(qR hS hx).2 _ hk
 obtain ⟨e1,e2⟩:=hxr
 have e1:m = xs.length:=e1
 obtain ⟨hv,h3,h4⟩:=bind_some hh
 have hhi:a.eval hi = .int .i64 n:=(jZ.1 (show rdV (Zn σ s.heap w) w (a.eval hi) (.int n) by
  have hr:=qR hS h3
  unfold avI at h4
  split at h4
  ·cases h4;exact hr.2
  ·cases h4)).1
 have hro:=hS.rows key _ hk
 obtain ⟨ds,hrow,_⟩:=hro.row
 have hrow:Row w (slv (σ.g key) xs.length (σ.cap key)) k xs.length ds (σ.g key):=hrow
 obtain ⟨oa,c,ev,k1,k2,k3,k4⟩:=vI hrow
 have hxe:a.eval x = .slice oa m c:=by rw [e2,e1];exact ev
 have hrun:(execOp a.eval o).run P w = .ok (.value (slv (σ.g key) n (σ.cap key))) w:=by
  unfold execOp
  rw [ho]
  have:=run_sliceSl (P:=P) T.ht ⟨ti,hti,hsz⟩ (oa:=oa) (m:=m) (c:=c) (lo:=none) (hi:=some (n:Int)) (by simp) (by simp) (by simp;omega) (by rw [e1];exact k1) w
  simp only [Option.getD_none,Option.getD_some,Option.map_none,Option.map_some] at this
  rw [show (0:Int).toNat = 0 from rfl,Int.toNat_natCast,Nat.sub_zero,Nat.sub_zero,Nat.zero_mul] at this
  have hval:(Value.slice (if c = 0 then oa else oa.map (·.add 0)) n c) = slv (σ.g key) n (σ.cap key):=by
   cases hgk:σ.g key with
   | none =>
    rw [hgk] at k4 hrow
    have h0:=hrow.len0
    have hoa:oa = none:=k4
    have hc0:=k3 hoa
    subst hoa
    have:n = 0:=by omega
    subst this;subst hc0
    rfl
   | some b =>
    rw [hgk] at k4 ev
    have hoa:oa = some ⟨b,0,none⟩:=k4
    unfold slv at ev
    simp only [Value.slice.injEq] at ev
    rw [hoa,← ev.2.2]
    simp [slv,Addr.add]
  rw [← hval]
  simp only [hxe,hhi,Option.map_none,Option.map_some]
  simp [this]
 unfold Oper.wp
 rw [hrun]
 show K (a.put o.dst _) _
 rw [hd]
 have hS2:=hS.trunc hk hle hnr
 refine hK _ _ (h w0 Ok σ _ _ Q' hM (Sim.ins hS2 hdN ⟨by cases σ.g key <;> rfl,fun o' ho' => ?_⟩) hQ)
 rw [jJ,if_pos rfl] at ho'
 cases ho'
 have hlen:(xs.take n).length = n:=by rw [List.length_take];omega
 exact ⟨hlen.symm,rfl⟩
theorem qY.clear (C:CfgOK P cfg) {o:Oper} {l:List Oper} {Q:St→Prop} {x:Operand} {t:TypeId} {i:TyI} {key j m k:Nat} {xs:List (List D)} {dd:Bool} (ho:o.op = .call ⟨.builtin .clear,#[x],#[t]⟩) (hg:o.guard = none) (hd:o.dst = none)
  (ht:cfg.sl t = some i) (hx:opv s.regs x = some (.c (.view key j m))) (hk:look key s.heap = some (.row k xs dd)) (hki:k = i.z.length) (hle:j + m = xs.length)
  (h:qY P cfg M ops l Q ⟨s.regs,insR key (.row k (xs.take j ++ List.replicate m i.z) false) s.heap⟩):qY P cfg M ops (o :: l) Q s:=by
 intro w0 Ok σ a w Q' hM hS hQ
 refine wpList_step (fun K hK => ?_)
 have hw:qM ops s.regs o = some true:=by unfold qM;rw [hg]
 rw [yK hS hw]
 simp only [if_true]
 obtain ⟨z,T,hz⟩:=C.sl t i ht
 obtain ⟨_,oa,c,ev,v1,v2,v3,v4⟩:=(qR hS hx).2 _ hk
 have hro:=hS.rows key _ hk
 obtain ⟨ds,hrow,hkp,hrd⟩:=RowOK.rd hS.ok1 hS.rows hS.disj hk
 have hlen:(xs.take j ++ List.replicate m i.z).length = xs.length:=by simp;omega
 obtain ⟨W,hrun,hR,hgr⟩:∃ W,(execOp a.eval o).run P w = .ok (.value (.tuple #[])) W∧Row W (slv (σ.g key) xs.length (σ.cap key)) k xs.length (ds.take (j * k) ++ (List.replicate m (i.z.map zval)).flatten) (σ.g key)∧w.grownBy W (σ.g key):=by
  rcases v4 with rfl|⟨b,hgb,rfl⟩
  ·refine ⟨w,?_,?_,World.grownBy.refl _ _⟩
   ·unfold execOp
    rw [ho]
    cases oa <;> simp [resolve,invoke,builtin,ev,Builtin.clear_,run_underlying T.ht]
   ·have:ds.take (j * k) = ds:=List.take_of_length_le (by rw [hrow.1];simp at hle;rw [hle];exact Nat.le_refl _)
    rw [this];simpa using hrow
  ·rw [hgb] at hrow ⊢
   have ev:a.eval x = .slice (some ⟨b,j * k,none⟩) m c:=ev
   obtain ⟨cs,hcs⟩:∃ cs,cs = (Builtin.zeroCells z.cells m).toList:=⟨_,rfl⟩
   have hcs2:cs = (List.replicate m (i.z.map zval)).flatten:=by
    rw [hcs,← xN0 hz T.hk m]
    have hs:z.cells.size = i.z.length:=by rw [← Array.length_toList,hz.1,List.length_map]
    unfold Builtin.zeroCells madeCells
    rw [hs]
   have hcl:cs.length = m * k:=by rw [hcs2,hki];simp
   have hone:∀ v ∈ cs,v.oneCell' = true:=by
    intro v hv
    rw [hcs2] at hv
    have:=(rep_own hz.2 T.hk w m).rd.one
    exact this v hv
   have hoff:j * k + cs.length ≤ ds.length:=by rw [hrow.1,hcl,← Nat.add_mul,hle];exact Nat.le_refl _
   obtain ⟨r1,r2⟩:=Row.storeCells cs (j * k) hrow hoff
   refine ⟨w.setCells b (j * k) cs,?_,?_,r2⟩
   ·have hst:=run_storeCells_cells (P:=P) b (j * k) cs 0 w (fun q hq => by
     rw [Nat.add_zero]
     have hlt:j * k + q < ds.length:=by omega
     rw [hrow.cells (j * k + q) ds[j * k + q] (List.getElem?_eq_getElem hlt)];rfl) (fun q hq => hrow.frozen _) hone
    rw [Nat.add_zero] at hst
    unfold execOp
    rw [ho]
    cases m with
    | zero =>
     have:cs = []:=by rw [hcs2];rfl
     subst this
     simp [resolve,invoke,builtin,ev,Builtin.clear_,run_underlying T.ht]
     rfl
    | succ m =>
     obtain ⟨ti,hti,hzz,hsz,_⟩:=T.hi
     simp [resolve,invoke,builtin,ev,Builtin.clear_,run_underlying T.ht,zeroValue,typeInfo,hti,hzz,← hcs,hst]
   ·rw [hcs2] at r1 ⊢
    have e:qL ds (j * k) ((List.replicate m (i.z.map zval)).flatten) = ds.take (j * k) ++ (List.replicate m (i.z.map zval)).flatten:=by
     unfold qL
     rw [List.drop_of_length_le (by rw [hrow.1,← hcs2,hcl,← Nat.add_mul,hle];exact Nat.le_refl _),List.append_nil]
    rw [e] at r1
    exact r1
 unfold Oper.wp
 rw [hrun]
 show K (a.put o.dst _) _
 rw [hd]
 have hl:∀ q o',look q (insR key (.row k (xs.take j ++ List.replicate m i.z) false) s.heap) = some o'→(q = key∧o' = .row k (xs.take j ++ List.replicate m i.z) false) ∨ (q ≠ key∧look q s.heap = some o'):=by
  intro q o' ho'
  rw [jJ] at ho'
  split at ho'
  ·rename_i e;cases ho';exact .inl ⟨e.symm,rfl⟩
  ·rename_i e;exact .inr ⟨fun e' => e e'.symm,ho'⟩
 have hblk:∀ b,b < w.heap.size→σ.g key ≠ some b→W.heap[b]? = w.heap[b]?:=fun b hb hne => hgr.block b hb (fun e => hne e.symm)
 have hZ:jQ σ σ s.heap (insR key (.row k (xs.take j ++ List.replicate m i.z) false) s.heap) w W:=fun b hb => ⟨⟨Nat.lt_of_lt_of_le hb.1 hgr.size,hb.2.1,fun q o' ho' => by
  rcases hl q o' ho' with ⟨rfl,_⟩|⟨_,ho⟩
  ·exact hb.2.2 q _ hk
  ·exact hb.2.2 q _ ho⟩,hblk b hb.1 (hb.2.2 key _ hk)⟩
 have hst:∀ q,jX σ σ s.heap (insR key (.row k (xs.take j ++ List.replicate m i.z) false) s.heap) q:=fun q o' ho' => by
  rcases hl q o' ho' with ⟨rfl,rfl⟩|⟨_,ho⟩
  ·exact ⟨_,hk,rfl,hlen.symm,rfl,rfl⟩
  ·exact ⟨o',ho,rfl,rfl,rfl,rfl⟩
 have hfp0:∀ b ∈ fp σ key (.row k (xs.take j ++ List.replicate m i.z) false),b ∈ fp σ key (.row k xs dd):=by
  intro b hb
  have hb:b ∈ (σ.g key).toList ++ []:=hb
  rw [List.append_nil] at hb
  exact List.mem_append_left _ hb
 refine hK _ _ (h w0 Ok σ _ _ Q' hM ?_ hQ)
 refine hS.step rfl (hS.below.grown hgr (fun b hb => hro.fresh b (qI hb))) hZ (hS.grownY hgr (fun b hb => hro.fresh b (qI hb))) (fun r av hr => ⟨av,hr,.inl ⟨rfl,fun q _ => hst q⟩⟩) (fun q o' ho' => ?_) (fun p o1 q u hp hq hpq b hb hb' => ?_)
 ·rcases hl q o' ho' with ⟨rfl,rfl⟩|⟨hq,ho⟩
  ·refine ⟨⟨ds.take (j * k) ++ (List.replicate m (i.z.map zval)).flatten,?_,hkp,?_⟩,fun b hb => hro.fresh b (hfp0 b hb),?_⟩
   ·show Row W (slv (σ.g q) (xs.take j ++ List.replicate m i.z).length (σ.cap q)) k (xs.take j ++ List.replicate m i.z).length _ (σ.g q)
    rw [hlen];exact hR
   ·show rdR k _ W _ (xs.take j ++ List.replicate m i.z)
    refine rdR.append (((hrd.take j (by omega)).step hZ)) ?_
    have:=(rep_own hz.2 T.hk W m).rd
    rw [← hki] at this
    exact this.mono (fun b hb _ => by cases hb)
   ·show ((σ.g q).toList ++ []).Nodup
    rw [List.append_nil]
    cases σ.g q <;> simp
  ·refine RowOK.keep hS.ok1 hS.rows hS.disj ho hZ (fun q' _ => hst q') rfl rfl rfl (fun b hb => hblk b (yA hS ho b (qI hb)) (fun e => ?_))
   exact hS.disj key _ q o' hk ho (fun e => hq e.symm) b (qI e) (qI hb)
 ·have hp2:∃ o2,look p s.heap = some o2∧b ∈ fp σ p o2:=by
   rcases hl p o1 hp with ⟨rfl,rfl⟩|⟨_,ho⟩
   ·exact ⟨_,hk,hfp0 b hb⟩
   ·exact ⟨_,ho,hb⟩
  have hq2:∃ o2,look q s.heap = some o2∧b ∈ fp σ q o2:=by
   rcases hl q u hq with ⟨rfl,rfl⟩|⟨_,ho⟩
   ·exact ⟨_,hk,hfp0 b hb'⟩
   ·exact ⟨_,ho,hb'⟩
  obtain ⟨o2,ho2,hb2⟩:=hp2
  obtain ⟨u2,hu2,hb3⟩:=hq2
  exact hS.disj p o2 q u2 ho2 hu2 hpq b hb2 hb3
end
end Go.Proofs.YtedgfkpfhonlpaaGreat
namespace Go.Proofs.YtedgfkpfhonlpaaGreat
open Go.RowKit
section
variable {P:Program} {cfg:Cfg} {w0:W0} {w w':World} {Ok:Nat→Prop} {N:Nat} {σ σ':Asg} {s s':St} {a:Act} {M:Nat→Prop}
theorem qO.split {A:Nat→Prop}:∀ {pre:List (List D)} {ds:List (List D)} {vs:List Value},qO A w (pre ++ ds) vs→∃ vs1 vs2,vs = vs1 ++ vs2∧qO A w pre vs1∧qO A w ds vs2
 | [],ds,vs,h => ⟨[],vs,rfl,rfl,h⟩
 | d :: pre,ds,vs,⟨v,us,e,h1,h2⟩ => by
  obtain ⟨us1,us2,e2,h3,h4⟩:=qO.split h2
  subst e2;subst e
  exact ⟨v :: us1,us2,rfl,⟨v,us1,rfl,h1,h3⟩,h4⟩
theorem qO.join {A:Nat→Prop}:∀ {pre:List (List D)} {ds:List (List D)} {vs1 vs2:List Value},qO A w pre vs1→qO A w ds vs2→qO A w (pre ++ ds) (vs1 ++ vs2)
 | [],ds,vs1,vs2,h,k => by rw [show vs1 = [] from h];exact k
 | d :: pre,ds,vs1,vs2,⟨v,us,e,h1,h2⟩,k => by
  subst e
  exact ⟨v,us ++ vs2,rfl,h1,qO.join h2 k⟩
theorem Bel.nil (h:Bel ⟨w,fun b => (none:Option Nat) = some b⟩ w'):Below w.heap.size w w' :=
 ⟨h.os,h.tape,h.output,h.size,fun i hi => h.block i hi (fun e => nomatch e) (fun h => h)⟩
theorem AOw.nil {g:FuncId} {pre post:List (List D)} {k:Nat} {Q:List Res→Prop} (h:AOw P g pre k [] post Q) (hk:0 < k):AFn P g (pre ++ [.raw (.slice none 0 0)] :: post) Q:=by
 refine ⟨h.call,fun A w vs hA hr => ?_⟩
 obtain ⟨vs1,vs2,e,h1,v,us,e2,h2,h3⟩:=qO.split hr
 subst e2;subst e
 obtain ⟨rfl,_⟩:=jL.1 (show rdV A w v (.raw (.slice none 0 0)) from h2)
 refine (h.fn A w vs1 us none 0 [] hA h1 h3 ⟨(Nat.zero_mul k).symm,.inl ⟨rfl,rfl,rfl⟩⟩ hk (by first|exact ⟨0,hk,rfl⟩|exact ⟨0,hk,trivial⟩|exact ⟨0,hk,by simp [rdL]⟩) (fun b e => nomatch e)).mono ?_
 rintro e w' ⟨v,rs,rfl,hQ,hb,ho⟩
 have e:(W0.mine ⟨w,fun b => (none:Option Nat) = some b⟩) = fun b => w.heap.size ≤ b:=by funext b;simp [W0.mine]
 rw [e] at ho
 exact ⟨v,rs,rfl,hQ,hb.nil,ho⟩
theorem n_callR (C:CfgOK P cfg) (h:Sim w0 Ok N σ s a w) {o:Oper} {f:Operand} {args:Array Operand} {ts:Array TypeId} {g:FuncId} (ho:o.op = .call ⟨.value f,args,ts⟩) (hf:((opv s.regs f).bind avD).bind fnId = some g)
  {ds:List (List D)} (hd:qO (Zn σ s.heap w) w ds (args.toList.map a.eval)) {Q0:List Res→Prop} (hfn:AFn P g ds Q0)
  {K:Act→World→Prop} {Q:Exit→Act→World→Prop} {key:Nat} (hfr:∀ rs,Q0 rs→∀ q ob,look q (qV key rs).2 = some ob→Free s q)
  (hK:∀ rs,Q0 rs→∀ v w' σ',relAV σ' ((qV key rs).2 ++ s.heap) w' (outAV (qV key rs).1) v→Sim w0 Ok N σ' ⟨s.regs,(qV key rs).2 ++ s.heap⟩ a w'→K (a.put o.dst v) w'):o.wp P a w K Q:=by
 have hfv:a.eval f = .func (.func g) #[] #[]:=vL h hf
 have hrun:(execOp a.eval o).run P w = .ok (.enter g (args.map a.eval)) w:=by
  unfold execOp
  rw [ho]
  simp [resolve,Deferred.ofValue,hfv,invoke,hfn.call]
 obtain ⟨A,hA,hAa,hAz⟩:∃ A:Nat→Prop,(∀ b,A b→b < w.heap.size)∧qO A w ds (args.toList.map a.eval)∧((∃ rs,Q0 rs∧rs.all Res.scalar = false)→∀ b,A b→Zn σ s.heap w b):=by
  exact ⟨Zn σ s.heap w,fun _ h => h.1,hd,fun _ b hb => hb⟩
 have hcall:=hfn.fn A w (args.toList.map a.eval) hA hAa
 unfold Oper.wp
 rw [hrun,Oper.upon_enter]
 have e:(args.toList.map a.eval).toArray = args.map a.eval:=by rw [← Array.toList_map,Array.toArray_toList]
 rw [← e]
 refine hcall.mono ?_
 rintro e w' ⟨v,rs,rfl,hQ,hw,us,G,X,rfl,hG1,hG2,hrel⟩
 obtain ⟨σ',k0,k1,k2,k3,k4⟩:=qF0 key σ hrel hG1
 have hgn:∀ q u,look q (qV key rs).2 = some u→∀ b,σ'.g q = some b→w.heap.size ≤ b:=fun q u hq b hb => hG2 b ((k2 q u hq).2.2.1 b (qI hb))
 have hZ1:(∀ b,A b→Zn σ s.heap w b)→∀ b,((A b ∨ w.heap.size ≤ b)∧b ∉ X)→b < w'.heap.size→Zn σ' ((qV key rs).2 ++ s.heap) w' b:=by
  intro hAz b hb hlt
  have hz:=jQ.grown hw h hAz b hb.1 hlt
  refine ⟨hlt,by rw [k0];exact hz.2.1,fun q u hq e => ?_⟩
  rw [yZ] at hq
  cases hn:look q (qV key rs).2 with
  | some o' => exact hb.2 ((k2 q o' hn).2.2.2 b e)
  | none =>
   rw [hn] at hq
   rw [(k1 q hn).1] at e
   exact hz.2.2 q u hq e
 refine hK rs hQ _ w' σ' (out_rel ?_) ?_
 ·by_cases hsc:rs.all Res.scalar = true
  ·exact k4.relS hsc
  ·exact k4.rel (hZ1 (hAz ⟨rs,hQ,by simpa using hsc⟩))
 ·refine h.news k0 hw (hfr rs hQ) k1 (fun q o' hq => ?_) (fun q o' hq => ?_) k3
  ·obtain ⟨⟨dd,k,xs,d,b1,b2,b3,b4⟩,_⟩:=k2 q o' hq
   subst b1
   refine ⟨dd,b2,b3,?_⟩
   show if d = true then ownR k w' dd xs (σ'.F q) else rdR k (Zn σ' ((qV key rs).2 ++ s.heap) w') w' dd xs
   cases d with
   | true => rw [if_pos rfl];exact b4
   | false =>
    rw [if_neg (by decide)]
    have b4':rdR k (fun b => (A b ∨ w.heap.size ≤ b)∧b ∉ X) w' dd xs:=b4
    have hsc:rs.all Res.scalar = false:=by
     have key:∀ {rs:List Res} {key:Nat} {q:Nat},look q (qV key rs).2 = some (.row k xs false)→rs.all Res.scalar = false:=by
      intro rs
      induction rs with
      | nil => intro key q hq;cases hq
      | cons r rs ih =>
       intro key q hq
       cases r with
       | val d => rw [List.all_cons,ih (by simpa [qV,resAC] using hq),Bool.and_false]
       | own kk ys d =>
        simp only [qV,resAC,List.singleton_append,look] at hq
        split at hq
        ·cases hq;rfl
        ·rw [List.all_cons,ih hq,Bool.and_false]
     exact key hq
    exact b4'.mono (fun b hb hlt => hZ1 (hAz ⟨rs,hQ,hsc⟩) b hb hlt)
  ·obtain ⟨_,b5,b6,_⟩:=k2 q o' hq
   exact ⟨fun b hb => hG2 b (b6 b hb),b5⟩
theorem qY.callNil (C:CfgOK P cfg) {ops:Array Oper} {o:Oper} {l:List Oper} {Q:St→Prop} {d:Nat} {f:Operand} {args:Array Operand} {ts:Array TypeId} {g:FuncId} (hb:qM ops s.regs o = some true) (hdN:d < cfg.N)
  (ho:o.op = .call ⟨.value f,args,ts⟩) (hod:o.dst = some d) (hf:((opv s.regs f).bind avD).bind fnId = some g)
  {xs:List Operand} {tx:List TypeId} {pre:List (List D)} (ha:args.toList = xs ++ [.const (.slice none 0 0)]) (hpre:aargs cfg (fun k => look k s.heap) s.regs xs tx = some pre) (hr:qP s.regs xs = [])
  {rs:List Res} (hfn:AFn P g (pre ++ [[.raw (.slice none 0 0)]]) (· = rs)) (hfr:(qV d rs).2.all (fun p => fresh s p.1) = true)
  (h:qY P cfg M ops l Q (s.got d rs)):qY P cfg M ops (o :: l) Q s:=by
 intro w0 Ok σ a w Q' hM hS hQ
 refine wpList_step (fun K hK => ?_)
 rw [yK hS hb]
 simp only [if_true]
 have hrel:qO (Zn σ s.heap w) w (pre ++ [[.raw (.slice none 0 0)]]) (args.toList.map a.eval):=by
  rw [ha,List.map_append]
  exact qO.join ((xH C hS hpre).2 hr) ⟨_,[],rfl,jL.2 ⟨rfl,rfl⟩,rfl⟩
 refine n_callR C hS (key:=d) ho hf hrel hfn (fun rs' e => e ▸ fun q ob hq => xE (List.all_eq_true.1 hfr _ (yV hq))) (fun rs' e v w' σ' hv hS' => ?_)
 subst e
 rw [hod]
 have hsub:∀ k o',look k (jS (qV d rs').2 s.heap) = some o'→look k ((qV d rs').2 ++ s.heap) = some o':=fun k o' ho' => by rw [kT] at ho';exact ho'
 exact hK _ _ (h w0 Ok σ' _ _ Q' hM (Sim.ins (hS'.forget (fun _ _ h => h) hsub) hdN (hv.sub hsub)) hQ)
theorem qY.callNilP (C:CfgOK P cfg) {ops:Array Oper} {o:Oper} {l:List Oper} {Q:St→Prop} {d:Nat} {f:Operand} {args:Array Operand} {ts:Array TypeId} {g:FuncId} (hb:qM ops s.regs o = some true) (hdN:d < cfg.N)
  (ho:o.op = .call ⟨.value f,args,ts⟩) (hod:o.dst = some d) (hf:((opv s.regs f).bind avD).bind fnId = some g)
  {xs:List Operand} {tx:List TypeId} {pre:List (List D)} {ys:List Operand} {ty:List TypeId} {post:List (List D)} (ha:args.toList = xs ++ .const (.slice none 0 0) :: ys) (hpre:aargs cfg (fun k => look k s.heap) s.regs xs tx = some pre) (hr:qP s.regs xs = []) (hpost:aargs cfg (fun k => look k s.heap) s.regs ys ty = some post) (hr2:qP s.regs ys = [])
  {rs:List Res} (hfn:AFn P g (pre ++ [.raw (.slice none 0 0)] :: post) (· = rs)) (hfr:(qV d rs).2.all (fun p => fresh s p.1) = true)
  (h:qY P cfg M ops l Q (s.got d rs)):qY P cfg M ops (o :: l) Q s:=by
 intro w0 Ok σ a w Q' hM hS hQ
 refine wpList_step (fun K hK => ?_)
 rw [yK hS hb]
 simp only [if_true]
 have hrel:qO (Zn σ s.heap w) w (pre ++ [.raw (.slice none 0 0)] :: post) (args.toList.map a.eval):=by
  rw [ha,List.map_append]
  exact qO.join ((xH C hS hpre).2 hr) ⟨_,_,rfl,jL.2 ⟨rfl,rfl⟩,(xH C hS hpost).2 hr2⟩
 refine n_callR C hS (key:=d) ho hf hrel hfn (fun rs' e => e ▸ fun q ob hq => xE (List.all_eq_true.1 hfr _ (yV hq))) (fun rs' e v w' σ' hv hS' => ?_)
 subst e
 rw [hod]
 have hsub:∀ k o',look k (jS (qV d rs').2 s.heap) = some o'→look k ((qV d rs').2 ++ s.heap) = some o':=fun k o' ho' => by rw [kT] at ho';exact ho'
 exact hK _ _ (h w0 Ok σ' _ _ Q' hM (Sim.ins (hS'.forget (fun _ _ h => h) hsub) hdN (hv.sub hsub)) hQ)
end
noncomputable def atOwn (A:List (List D)) (k:Nat) (X:List (List D)) (B:List (List D)) (R:List Res) (a:List (List D)) (k':Nat) (x:List (List D)) (b:List (List D)):Option (List Res × Option (List (List D))):=by
 classical
 exact if a = A∧k' = k∧x = X∧b = B then some (R,Option.none) else Option.none
theorem atOwn_eq (A:List (List D)) (k:Nat) (X:List (List D)) (B:List (List D)) (R:List Res):atOwn A k X B R A k X B = some (R,Option.none):=by
 unfold atOwn;rw [if_pos ⟨rfl,rfl,rfl,rfl⟩]
theorem atOwn_some {A:List (List D)} {k:Nat} {X:List (List D)} {B:List (List D)} {R:List Res} {a:List (List D)} {k':Nat} {x b:List (List D)} {r:List Res × Option (List (List D))} (h:atOwn A k X B R a k' x b = some r):a = A∧k' = k∧x = X∧b = B∧r = (R,Option.none):=by
 unfold atOwn at h
 split at h
 ·rename_i h1
  exact ⟨h1.1,h1.2.1,h1.2.2.1,h1.2.2.2,(Option.some.inj h).symm⟩
 ·exact nomatch h
noncomputable def Tab.own' {P:Program} (T:Tab P) (g:FuncId) (n:Nat) {A:List (List D)} {k:Nat} {X B:List (List D)} {R:List Res} (h:AOw P g A k X B (· = R)):Tab P :=
 T.own g ⟨false,n,atOwn A k X B R⟩ (fun pre k' xs post r _ e => by
  obtain ⟨rfl,rfl,rfl,rfl,rfl⟩:=atOwn_some e
  exact h.toEf)
end Go.Proofs.YtedgfkpfhonlpaaGreat
namespace Go.Proofs.YtedgfkpfhonlpaaGreat
open Go.RowKit
theorem foldS_len {α:Type} (f:α→List Spl) (m:α→Nat):∀ (bs:List α) (A:List Spl),(∀ b ∈ bs,(f b).length ≤ 2 ^ m b)→(foldS A (bs.map f)).length ≤ A.length * 2 ^ (bs.map m).sum
 | [],A,_ => by simp [foldS]
 | b :: bs,A,h => by
  have h1:=foldS_len f m bs (A.flatMap fun s => (f b).map (catS s)) (fun x hx => h x (by simp [hx]))
  have h2:(A.flatMap fun s => (f b).map (catS s)).length = A.length * (f b).length:=by
   clear h1
   induction A with
   | nil => simp
   | cons a A ih => rw [List.flatMap_cons,List.length_append,ih,List.length_map,List.length_cons,Nat.succ_mul,Nat.add_comm]
  rw [h2] at h1
  have e:((b :: bs).map m).sum = m b + (bs.map m).sum:=by simp
  rw [e,Nat.pow_add]
  refine Nat.le_trans h1 ?_
  rw [← Nat.mul_assoc]
  exact Nat.mul_le_mul_right _ (Nat.mul_le_mul_left _ (h b (by simp)))
theorem kM:∀ (n:Nat) {t:List Int},t.length ≤ n→qW t→(split t).length ≤ 2 ^ t.length
 | 0,t,hn,h => by have:=h.pos;omega
 | n + 1,t,hn,h => by
  rw [vK h,List.length_append,List.length_map,List.length_singleton]
  have h1:=foldS_len split List.length (brs t) [([],[])] (fun b hb => kM n (by have:=yE h b hb;omega) (jC h b hb))
  have hb:=kW h
  have h2:(prodS ((brs t).map split)).length ≤ 2 ^ qX (brs t):=by
   have:(foldS [([],[])] ((brs t).map split)).length ≤ 1 * 2 ^ qX (brs t):=h1
   rw [Nat.one_mul] at this;exact this
  rw [← hb,Nat.pow_succ]
  have:0 < 2 ^ qX (brs t):=Nat.pow_pos (by decide)
  omega
theorem prod_len {bs:List (List Int)} (h:∀ b ∈ bs,qW b) (h8:qX bs ≤ 8):(prodS (bs.map split)).length ≤ 256:=by
 have h1:=foldS_len split List.length bs [([],[])] (fun b hb => kM _ (Nat.le_refl _) (h b hb))
 have h2:(prodS (bs.map split)).length ≤ 2 ^ qX bs:=by
  have:(foldS [([],[])] (bs.map split)).length ≤ 1 * 2 ^ qX bs:=h1
  rw [Nat.one_mul] at this;exact this
 exact Nat.le_trans h2 (Nat.pow_le_pow_right (by decide) h8)
theorem qK0 {bs:List (List Int)} (h:∀ b ∈ bs,qW b):∀ s ∈ prodS (bs.map split),xY (qX bs) s:=fun s hs => by
 have:=jB0 split List.length bs [([],[])] 0 (fun b hb => xO _ (Nat.le_refl _) (h b hb)) (fun s hs => by
  obtain rfl:=List.mem_singleton.1 hs
  exact ⟨by simp,rfl⟩) s hs
 rw [Nat.zero_add] at this
 exact this
theorem xY.nrm {n:Nat} {s:Spl} (h:xY n s):xY n (nrmS s):=by
 refine ⟨fun t ht => h.1 t ?_,?_⟩
 ·unfold nrmS at ht
  simp only [List.mem_append,yG] at ht ⊢
  exact ht
 ·unfold nrmS
  simp only
  rw [vQ (jR _),vQ (jR _)]
  exact h.2
theorem len_sum:∀ {f:List (List Int)},(∀ t ∈ f,qW t)→f.length ≤ qX f
 | [],_ => Nat.le_refl _
 | t :: f,h => by
  have h1:=(h t (by simp)).pos
  have h2:=len_sum (f:=f) (fun x hx => h x (by simp [hx]))
  have:qX (t :: f) = t.length + qX f:=rfl
  rw [this,List.length_cons];omega
theorem xY.ha {n:Nat} {s:Spl} (h:xY n s) (hn:n ≤ 9):HaS s:=by
 have h1:=len_sum (f:=s.1) (fun t ht => (h.1 t (by simp [ht])).1)
 have h2:=len_sum (f:=s.2) (fun t ht => (h.1 t (by simp [ht])).1)
 have h3:=h.2
 exact ⟨⟨by omega,by omega⟩,⟨by omega,by omega⟩⟩
theorem gath_ok {L:List Spl} {n:Nat} (hL:∀ s ∈ L,xY n s) (hn:n ≤ 9):∀ p ∈ gathS L,1 ≤ p.2∧HaS p.1:=fun p hp => by
 have h:=yB L
 refine ⟨(h.cnt p hp).1,?_⟩
 obtain ⟨s,hs,e⟩:=List.mem_map.1 (h.key p hp)
 rw [← e]
 exact (hL s hs).nrm.ha hn
theorem wG {L:List Spl} {n:Nat} (hL:∀ s ∈ L,xY n s):∀ p ∈ gathS L,1 ≤ p.2∧p.2 ≤ L.length∧xY n p.1:=fun p hp => by
 have h:=yB L
 have hc:=h.cnt p hp
 rw [List.length_map] at hc
 refine ⟨hc.1,hc.2,?_⟩
 obtain ⟨s,hs,e⟩:=List.mem_map.1 (h.key p hp)
 rw [← e]
 exact (hL s hs).nrm
theorem gath_exp (L:List Spl):(expN (gathS L)).length = L.length:=by rw [(yB L).2.length_eq,List.length_map]
theorem gath_one:gathS [([],[])] = [(([],[]),1)]:=IsN.ext xK (yB _) one_is (List.Perm.refl _)
theorem prodS_snoc (Ls:List (List Spl)) (L:List Spl):prodS (Ls ++ [L]) = (prodS Ls).flatMap fun s => L.map (catS s):=by unfold prodS;rw [List.foldl_append];rfl
theorem times_gath (Ls:List (List Spl)) (L:List Spl):timesN cmpS mulS (gathS (prodS Ls)) (gathS L) = gathS (prodS (Ls ++ [L])):=by
 refine IsN.ext xK (IsN.times xK mulS (yB _) (yB _)) (yB _) ?_
 rw [prodS_snoc,wM]
theorem mem_take {α:Type} {l:List α} {i:Nat} {P:α→Prop} (h:∀ b ∈ l,P b):∀ b ∈ l.take i,P b:=fun b hb => h b (List.mem_of_mem_take hb)
theorem sumLen_take' (l:List (List Int)) (i:Nat):qX (l.take i) ≤ qX l:=by
 conv => rhs;rw [← List.take_append_drop i l,wW]
 omega
theorem a_l03Parts (t:List Int) (h:qW t) (hl:t.length ≤ 1000):AFn Tryz.prog 230 [eL t] (· = [.own 1 ((brs t).map eL) true]) :=
 afn_L_oo (enters_of Tryz.func230 rfl rfl) (fun u w h' => yJ0 u t w h' h (by omega))
theorem a_l03Branches (t:List Int) (h:qW t) (hc:canon t = t) (hl:t.length ≤ 1000):AFn Tryz.prog 192 [eL t] (· = [.own 1 ((sortC cmpT (brs t)).map eL) true]):=by
 have h1:=a_l03CanonB t h hl
 have h2:=a_l03Parts t h hl
 have hb:=kW h
 have h3:=a_l03Sort (brs t) (by have:=brs_few h;omega) (fun b hb' => by have:=jN hb';omega)
 rw [hc] at h1
 simp only [eL,eLL] at h1 h2 h3
 refine AFn.of_runs (qJ 7) Tryz.func192 rfl rfl rfl gz ?_
 have hres:Tryz.f192.results.toList = [.tmp 2]:=rfl
 have hrts:Tryz.f192.resultTypes.toList = [36]:=rfl
 simp only [qU,qT,eL,eI,eLL,eB,Nat.zero_add,Nat.reduceAdd]
 intro M
 refine qQ.of ?_
 refine gw40 (kk 3) ?_
 (refine Ends.mk (by simp) (rs:=?_) (ks:=?_) hres hrts ?_ ?_ ?_;rotate_left 2;(focus (simp only [Ze,Zg,Zi,seval,forest];with_reducible rfl));(focus simp);focus (first|with_reducible rfl|(simp only [Zv,forest];done)))
theorem a_l05Forest_of (n:Nat) (hT:∀ b,qW b→canon b = b→b.length ≤ n→AFn Tryz.prog 132 [eL b] (· = [.val (.sl 3 ((gathS (split b)).map eSp))])) (bs:List (List Int)) (hb:∀ b ∈ bs,qW b∧canon b = b∧b.length ≤ n) (h8:qX bs ≤ 8) :
  AFn Tryz.prog 66 [eLL bs] (· = [.val (.sl 3 ((gathS (prodS (bs.map split))).map eSp))]):=by
 have hlev:∀ b ∈ bs,qW b:=fun b hb' => (hb b hb').1
 have hbl:=len_sum hlev
 refine AFn.of_runs (qJ 21) Tryz.func66 rfl rfl rfl gz ?_
 have hres:Tryz.f66.results.toList = [.tmp 2]:=rfl
 have hrts:Tryz.f66.resultTypes.toList = [33]:=rfl
 simp only [qU,qT,eL,eI,eLL,eB,Nat.zero_add,Nat.reduceAdd]
 intro M
 refine qQ.of ?_
 refine gw7 (kk 5) Y0 ?_
 refine qQ.frz 3 ?_
 refine qQ.fits (s0:=⟨[(0,.c (.val (.sl 1 (bs.map eL)))),(3,.c (.val (.sl 3 [[.sl 1 [],.sl 1 [],.int 1]]))),(4,.c (.val (.int 0)))],[]⟩) ?_ ?_
 ·exact gw34
 refine qQ.loop (β:=Nat) (γ:=Unit) (fun i => ⟨[(0,.c (.val (.sl 1 (bs.map eL)))),(3,.c (.val (.sl 3 ((gathS (prodS ((bs.take i).map split))).map eSp)))),(4,.c (.val (.int i)))],[]⟩) (fun i => i ≤ bs.length) (fun i => bs.length - i)
  (fun _ => ⟨[(3,.c (.val (.sl 3 ((gathS (prodS (bs.map split))).map eSp))))],[]⟩) (fun _ => True) 0 (Nat.zero_le _) ?_ ?_ ?_
 ·exact gw41 (show prodS [] = [([],[])] from rfl)
 ·intro i hi
  have hi:i ≤ bs.length:=hi
  have hw:=qH (n:=i) (by omega)
  by_cases h:i < bs.length
  ·have i1:((i:Int) < (bs.length:Int)) = True:=eq_true (by omega)
   have i2:((0:Int) ≤ (i:Int)) = True:=eq_true (by omega)
   obtain ⟨b,hbe⟩:∃ b,b = bs[i]:=⟨_,rfl⟩
   have hmem:b ∈ bs:=by rw [hbe];exact List.getElem_mem _
   have hg:(bs.map eL)[i]? = some [.sl 1 (b.map eI)]:=by rw [qD h,hbe];rfl
   have hle:(bs.map eL).length = bs.length:=List.length_map _
   obtain ⟨hb1,hb2,hb3⟩:=hb b hmem
   have hb4:b.length ≤ 8:=by have:=jN hmem;omega
   have ht:=hT b hb1 hb2 hb3
   have hX:=sumLen_take' bs i
   have hlevX:=mem_take (i:=i) hlev
   have htm:=a_l05Times (gathS (prodS ((bs.take i).map split))) (gathS (split b)) (gath_ok (qK0 hlevX) (by omega)) (gath_ok (xO _ (Nat.le_refl _) hb1) (by omega))
    (by rw [gath_exp];have:=prod_len hlevX (by omega);omega)
    (by rw [gath_exp];have:=kM _ (Nat.le_refl _) hb1;have h2:2 ^ b.length ≤ 2 ^ 8:=Nat.pow_le_pow_right (by decide) hb4;omega)
   rw [times_gath] at htm
   have htk:(bs.take (i + 1)).map split = (bs.take i).map split ++ [split b]:=by rw [hbe,List.take_succ_eq_append_getElem h,List.map_append];rfl
   simp only [eL] at ht
   refine gw42 (kk 5) (Y5 i1 i2 hg hw hle) ?_
   refine qZ.on (i + 1) ⟨h,by omega⟩ ?_
   rw [htk]
   exact gw6 Y0
  ·have i1:((i:Int) < (bs.length:Int)) = False:=eq_false (by omega)
   obtain rfl:i = bs.length:=by omega
   rw [List.take_length]
   refine gw5 (kk 5) i1 ?_
   refine qZ.out () trivial ?_
   exact gw6 Y0
 ·rintro _ _
  refine gw7 (kk 5) Y0 ?_
  exact gw8
theorem tree_sum {t:List Int} (h:qW t) (hc:canon t = t):(gathS (prodS ((sortC cmpT (brs t)).map split))).foldl (fun s p => putN cmpS s p.2 (rootS p.1)) [(([t],[]),1)] = gathS (split t):=by
 have hf:=spec_tree h hc (fun b => gathS (split b)) (fun b _ => yB _)
 unfold putsS at hf
 rw [spec_forest (sortC cmpT (brs t)) (fun b => gathS (split b)) (fun b _ => rfl)] at hf
 exact hf
theorem putM_is (L:List (Spl × Int)) (P:List (Spl × Int)) {M:List Spl} (hL:IsN cmpS L M) (hP:∀ p ∈ P,1 ≤ p.2):IsN cmpS (P.foldl (fun s p => putN cmpS s p.2 (rootS p.1)) L) (M ++ expN (P.map fun p => (rootS p.1,p.2))):=by
 have h2:=IsN.puts xK (P.map fun p => (rootS p.1,p.2)) hL (fun p hp => by
  obtain ⟨q,hq,rfl⟩:=List.mem_map.1 hp
  exact hP q hq)
 rw [List.foldl_map] at h2
 exact h2
theorem canon_brs {t:List Int} (h:qW t) (hc:canon t = t):∀ b ∈ brs t,canon b = b:=fun b hb => by
 have hl:∀ c ∈ sortC cmpD ((brs t).map canon),qW c:=fun c hc' => by
  rw [yG,List.mem_map] at hc'
  obtain ⟨x,hx,rfl⟩:=hc'
  exact kY (jC h x hx)
 have e:=xS h
 rw [hc] at e
 rw [e,vP hl,yG,List.mem_map] at hb
 obtain ⟨x,hx,rfl⟩:=hb
 exact qV0 (jC h x hx)
theorem root_sm {s:Spl} {n:Nat} (h:xY n s) (hn:n ≤ 8):SmS (rootS s):=by
 have h1:=(h.ha (by omega)).1.sm
 have hl:qW (qB s.2):=kN fun b hb => (h.1 b (by simp [hb])).1
 refine ⟨h1,by simp [rootS],?_⟩
 show (canon (qB s.2)).length + 0 ≤ 100
 rw [wI hl,xF]
 have:=h.2;omega
theorem a_l05Tree:∀ (n:Nat),n ≤ 8→∀ t:List Int,qW t→canon t = t→t.length ≤ n→AFn Tryz.prog 132 [eL t] (· = [.val (.sl 3 ((gathS (split t)).map eSp))])
 | 0,_,t,h,_,hn => by have:=h.pos;omega
 | n + 1,hn8,t,h,hc,hn => by
  have hsb:=kW h
  have hperm:=jR (c:=cmpT) (brs t)
  have hlev:∀ b ∈ sortC cmpT (brs t),qW b:=fun b hb => jC h b (yG.1 hb)
  have hs8:qX (sortC cmpT (brs t)) ≤ 7:=by rw [vQ hperm];omega
  have hbr:=AFn.valT (a_l03Branches t h hc (by omega))
  have hfo:=a_l05Forest_of n (fun b h1 h2 h3 => a_l05Tree n (by omega) b h1 h2 h3) (sortC cmpT (brs t)) (fun b hb => by
   have hb':=yG.1 hb
   exact ⟨jC h b hb',canon_brs h hc b hb',by have:=yE h b hb';omega⟩) (by omega)
  have how:=AFn.valT (a_l01Own t (by omega))
  have hgood:=wG (qK0 hlev)
  have hlen:=prod_len hlev (by omega)
  have hfin:=tree_sum h hc
  have hBl:(gathS (prodS ((sortC cmpT (brs t)).map split))).length ≤ 256:=by have:=(yB (prodS ((sortC cmpT (brs t)).map split))).len;rw [List.length_map] at this;omega
  have hBe:=gath_exp (prodS ((sortC cmpT (brs t)).map split))
  obtain ⟨B,hB⟩:∃ B,B = gathS (prodS ((sortC cmpT (brs t)).map split)):=⟨_,rfl⟩
  rw [← hB] at hgood hfin hfo hBl hBe
  have hone:IsN cmpS [((([t],[]):Spl),1)] [([t],[])]:=⟨⟨by simp,by simp⟩,List.Perm.refl _⟩
  have hF:∀ j,((B.take j).foldl (fun s p => putN cmpS s p.2 (rootS p.1)) [(([t],[]),1)]).length ≤ 1000000∧∀ q ∈ (B.take j).foldl (fun s p => putN cmpS s p.2 (rootS p.1)) [(([t],[]),1)],(1 ≤ q.2∧q.2 ≤ 1000000000)∧SmS q.1:=fun j => by
   have hP:∀ p ∈ B.take j,1 ≤ p.2∧p.2 ≤ 256∧SmS (rootS p.1):=fun p hp => by
    obtain ⟨g1,g2,g3⟩:=hgood p (List.mem_of_mem_take hp)
    exact ⟨g1,by omega,root_sm g3 (by omega)⟩
   have hi:=putM_is _ (B.take j) hone (fun p hp => (hP p hp).1)
   have hlt:(expN ((B.take j).map fun p => (rootS p.1,p.2))).length ≤ 256 * 256:=by
    have key:∀ (X:List (Spl × Int)),(∀ p ∈ X,p.2 ≤ 256)→(expN (X.map fun p => (rootS p.1,p.2))).length ≤ 256 * X.length:=by
     intro X
     induction X with
     | nil => intro _;simp [expN]
     | cons x X ih =>
      intro hx
      have h1:=ih (fun p hp => hx p (by simp [hp]))
      have h2:=hx x (by simp)
      rw [List.map_cons,yW,List.length_append,List.length_replicate,List.length_cons,Nat.mul_succ]
      show x.2.toNat + _ ≤ _
      omega
    have h1:=key (B.take j) (fun p hp => (hP p hp).2.1)
    have h2:(B.take j).length ≤ 256:=by rw [List.length_take];omega
    exact Nat.le_trans h1 (Nat.mul_le_mul_left _ h2)
   have hM:([(([t],[]):Spl)] ++ expN ((B.take j).map fun p => (rootS p.1,p.2))).length ≤ 1 + 256 * 256:=by rw [List.length_append,List.length_singleton];omega
   refine ⟨Nat.le_trans hi.len (by omega),fun q hq => ?_⟩
   have hcq:=hi.cnt q hq
   refine ⟨⟨hcq.1,by omega⟩,?_⟩
   have hk:=hi.key q hq
   rcases List.mem_append.1 hk with hk|hk
   ·rw [List.mem_singleton.1 hk]
    exact ⟨⟨by simp,by show t.length + 0 ≤ 100;omega⟩,by show SmF [];decide⟩
   ·obtain ⟨r,hr,e⟩:=expN_mem hk
    obtain ⟨p,hp,rfl⟩:=List.mem_map.1 hr
    rw [← e]
    exact (hP p hp).2.2
  simp only [eL,eLL] at hbr hfo how
  refine AFn.of_runs (qJ 41) Tryz.func132 rfl rfl rfl gz ?_
  have hres:Tryz.f132.results.toList = [.tmp 2]:=rfl
  have hrts:Tryz.f132.resultTypes.toList = [33]:=rfl
  simp only [qU,qT,eL,eI,eLL,eB,Nat.zero_add,Nat.reduceAdd]
  intro M
  refine qQ.of ?_
  refine gw43 (kk 6) ?_
  refine qQ.regCut (qJ 41) (Tab.none.at' 133 how) 3 (s1:=?_) ?_ ?_
  rotate_left 1
  focus (refine Work.mk ?_;simp only [Zg,Zi,seval];with_reducible rfl)
  simp only [List.toList_toArray,List.drop_succ_cons,List.drop_zero]
  refine qY.frzs [11] ?_
  refine qY.opsT (qJ 41) (T:=Tab.none) (s':=?_) ?_ ?_
  rotate_left 1
  focus (simp only [Zg,Zi,seval];with_reducible rfl)
  refine gw27 (kk 6) Y0 ?_
  refine qQ.frz 4 ?_
  refine qQ.fits (s0:=⟨[(3,.c (.val (.sl 3 (B.map eSp)))),(4,.c (.val (.sl 3 [[.sl 1 [[.sl 1 (t.map eI)]],.sl 1 [],.int 1]]))),(5,.c (.val (.int 0)))],[]⟩) ?_ ?_
  ·exact gw34
  refine qQ.loop (β:=Nat) (γ:=Unit) (fun j => ⟨[(3,.c (.val (.sl 3 (B.map eSp)))),(4,.c (.val (.sl 3 (((B.take j).foldl (fun s p => putN cmpS s p.2 (rootS p.1)) [(([t],[]),1)]).map eSp)))),(5,.c (.val (.int j)))],[]⟩) (fun j => j ≤ B.length) (fun j => B.length - j)
   (fun _ => ⟨[(4,.c (.val (.sl 3 ((gathS (split t)).map eSp))))],[]⟩) (fun _ => True) 0 (Nat.zero_le _) ?_ ?_ ?_
  ·exact gw44
  ·intro i hi
   have hi:i ≤ B.length:=hi
   have hw:=qH (n:=i) (by omega)
   by_cases h':i < B.length
   ·have i1:((i:Int) < (B.length:Int)) = True:=eq_true (by omega)
    have i2:((0:Int) ≤ (i:Int)) = True:=eq_true (by omega)
    obtain ⟨z,hz⟩:∃ z,z = B[i]:=⟨_,rfl⟩
    have hgz:=hgood B[i] (List.getElem_mem _)
    rw [← hz] at hgz
    obtain ⟨g1,g2,g3⟩:=hgz
    have hgz:=(g3.ha (by omega)).2.sm
    have hlz:∀ b ∈ z.1.2,qW b:=fun b hb => (g3.1 b (by simp [hb])).1
    have hroot:=AFn.valT (a_l03Root z.1.2 hgz hlz)
    have hst:(B.take (i + 1)).foldl (fun s p => putN cmpS s p.2 (rootS p.1)) [(([t],[]),1)] = putN cmpS ((B.take i).foldl (fun s p => putN cmpS s p.2 (rootS p.1)) [(([t],[]),1)]) z.2 (rootS z.1):=by
     rw [hz,List.take_succ_eq_append_getElem h',List.foldl_append];rfl
    have hFi:=hF i
    obtain ⟨K,hK⟩:∃ K,K = (B.take i).foldl (fun s p => putN cmpS s p.2 (rootS p.1)) [(([t],[]),1)]:=⟨_,rfl⟩
    rw [← hK] at hst hFi ⊢
    have hput:=a_l05Put K z.2 (rootS z.1) hFi.1 hFi.2 ⟨g1,by omega⟩ (root_sm g3 (by omega))
    have hg:(B.map eSp)[i]? = some [.sl 1 (z.1.1.map eL),.sl 1 (z.1.2.map eL),.int z.2]:=by rw [qD h',hz];rfl
    have hle:(B.map eSp).length = B.length:=List.length_map _
    simp only [eLL,rootS,eSp,eL,List.map_cons,List.map_nil] at hroot hput
    refine gw45 (kk 6) (Y5 i1 i2 hg hw hle) ?_
    refine qZ.on (i + 1) ⟨h',by omega⟩ ?_
    rw [hst]
    exact gw46
   ·have i1:((i:Int) < (B.length:Int)) = False:=eq_false (by omega)
    obtain rfl:i = B.length:=by omega
    rw [List.take_length,hfin]
    refine gw32 (kk 6) i1 ?_
    refine qZ.out () trivial ?_
    exact gw6 Y0
  ·rintro _ _
   refine gw27 (kk 6) Y0 ?_
   exact gw8
end Go.Proofs.YtedgfkpfhonlpaaGreat
namespace Go.Proofs.YtedgfkpfhonlpaaGreat
open Go.RowKit
theorem tmod_mP (n:Int):((n.tmod 10007) + 10007).tmod 10007 = mP n:=by
 have h1:n.tmod 10007 = if 0 ≤ n then n % 10007 else -((-n) % 10007):=by
  split
  ·rename_i h;exact Int.tmod_eq_emod_of_nonneg h
  ·rename_i h
   have:=Int.neg_tmod (-n) 10007
   rw [Int.neg_neg] at this
   rw [this,Int.tmod_eq_emod_of_nonneg (by omega)]
 rw [h1]
 unfold mP
 split
 ·rw [Int.tmod_eq_emod_of_nonneg (by omega)];omega
 ·rw [Int.tmod_eq_emod_of_nonneg (by omega)];omega
theorem tmod_bd (n:Int):-10007 < n.tmod 10007∧n.tmod 10007 < 10007:=by
 have h1:n.tmod 10007 = if 0 ≤ n then n % 10007 else -((-n) % 10007):=by
  split
  ·rename_i h;exact Int.tmod_eq_emod_of_nonneg h
  ·rename_i h
   have:=Int.neg_tmod (-n) 10007
   rw [Int.neg_neg] at this
   rw [this,Int.tmod_eq_emod_of_nonneg (by omega)]
 rw [h1];split <;> omega
theorem z10007:((10007:Int) = 0) = False:=eq_false (by decide)
theorem a_num (n:Int):AFn Tryz.prog 92 [eI n] (· = [.val (.int (mP n))]):=by
 have hb:=tmod_bd n
 have hw:w64 (n.tmod 10007 + 10007) = n.tmod 10007 + 10007:=qN (by omega)
 rw [← tmod_mP n]
 refine AFn.of_runs (qJ 7) Tryz.func92 rfl rfl rfl gz ?_
 have hres:Tryz.f92.results.toList = [.tmp 2]:=rfl
 have hrts:Tryz.f92.resultTypes.toList = [2]:=rfl
 simp only [qU,qT,eL,eI,eLL,eB,Nat.zero_add,Nat.reduceAdd]
 intro M
 refine qQ.of ?_
 refine gw47 (kk 3) hw ?_
 exact gw8
theorem wY (n:Int):AFn Tryz.prog 99 [eI n] (· = [.val (.int (mP n))]):=by
 have hb:=tmod_bd n
 have hw:w64 (n.tmod 10007 + 10007) = n.tmod 10007 + 10007:=qN (by omega)
 rw [← tmod_mP n]
 refine AFn.of_runs (qJ 7) Tryz.func99 rfl rfl rfl gz ?_
 have hres:Tryz.f99.results.toList = [.tmp 2]:=rfl
 have hrts:Tryz.f99.resultTypes.toList = [2]:=rfl
 simp only [qU,qT,eL,eI,eLL,eB,Nat.zero_add,Nat.reduceAdd]
 intro M
 refine qQ.of ?_
 refine gw47 (kk 3) hw ?_
 exact gw8
noncomputable def TMod:Tab Tryz.prog:=Tab.none.add 99 (tab1 codI fun n => some [.val (.int (mP n))]) (xD fun n rs h => by cases h;exact wY n)
theorem a_l01Add (a b:Int) (h:-9223372036854775808 ≤ a + b∧a + b ≤ 9223372036854775807):AFn Tryz.prog 162 [eI a,eI b] (· = [.val (.int (mP (a + b)))]):=by
 have hw:=qN h
 refine AFn.of_runs (qJ 9) Tryz.func162 rfl rfl rfl gz ?_
 have hres:Tryz.f162.results.toList = [.tmp 4]:=rfl
 have hrts:Tryz.f162.resultTypes.toList = [2]:=rfl
 simp only [qU,qT,eL,eI,eLL,eB,Nat.zero_add,Nat.reduceAdd]
 intro M
 refine qQ.of ?_
 refine gw48 (kk 5) hw ?_
 exact gw8
theorem vU (a b:Int) (h:-9223372036854775808 ≤ a * b∧a * b ≤ 9223372036854775807):AFn Tryz.prog 98 [eI a,eI b] (· = [.val (.int (mP (a * b)))]):=by
 have hw:=qN h
 refine AFn.of_runs (qJ 9) Tryz.func98 rfl rfl rfl gz ?_
 have hres:Tryz.f98.results.toList = [.tmp 4]:=rfl
 have hrts:Tryz.f98.resultTypes.toList = [2]:=rfl
 simp only [qU,qT,eL,eI,eLL,eB,Nat.zero_add,Nat.reduceAdd]
 intro M
 refine qQ.of ?_
 refine gw48 (kk 5) hw ?_
 exact gw8
end Go.Proofs.YtedgfkpfhonlpaaGreat
namespace Go.Proofs.YtedgfkpfhonlpaaGreat
open Go.RowKit
section
variable {β:Type} {S:Rep β} {w:World}
end
abbrev RPart:Rep (Int × List (List Int)):=RP RI (RS (RS RI))
end Go.Proofs.YtedgfkpfhonlpaaGreat
namespace Go.Proofs.YtedgfkpfhonlpaaGreat
open Go.RowKit
section
variable {β:Type} {S:Rep β} {w:World}
end
end Go.Proofs.YtedgfkpfhonlpaaGreat
namespace Go.Proofs.YtedgfkpfhonlpaaGreat
open Go.RowKit
section
variable {β:Type} {S:Rep β} {w:World}
end
def szN:List (Int × List (List Int))→Nat
 | [] => 0
 | p :: ps => (p.2.length + qX p.2) + szN ps
def szP (e:List (Int × List (List Int))):Prop:=e.length + szN e ≤ 1048576
theorem szN_mem:∀ {e:List (Int × List (List Int))} {p:Int × List (List Int)},p ∈ e→p.2.length + qX p.2 ≤ szN e
 | q :: e,p,h => by
  rcases List.mem_cons.1 h with rfl|h
  ·unfold szN;omega
  ·have:=szN_mem h;unfold szN;omega
theorem tPartI:ST Tryz.prog 50 71 (.agg #[.int .i64 0,.slice none 0 0]) 2 32:=ST.mk' (by kernel_rfl) (by kernel_rfl) rfl (by decide)
end Go.Proofs.YtedgfkpfhonlpaaGreat
namespace Go.Proofs.YtedgfkpfhonlpaaGreat
open Go.RowKit
def ePt (x:Int × List (List Int)):List D:=[.int x.1,.sl 1 (x.2.map eL)]
end Go.Proofs.YtedgfkpfhonlpaaGreat
namespace Go.Proofs.YtedgfkpfhonlpaaGreat
open Go.RowKit
structure PutI (e:Elt) (k:Int) (f:List (List Int)) (x:Nat × Bool × Elt):Prop where
 le:x.1 ≤ e.length
 no:x.2.1 = false→x.2.2 = e.take x.1∧∀ q ∈ e.take x.1,0 < cmpF f q.2
 yes:x.2.1 = true→x.2.2 ++ e.drop x.1 = putS cmpF e k f
 len:x.2.2.length ≤ x.1 + 1
end Go.Proofs.YtedgfkpfhonlpaaGreat
namespace Go.Proofs.YtedgfkpfhonlpaaGreat
open Go.RowKit
def OkE (e:Elt):Prop:=∀ q ∈ e,(1 ≤ q.1∧q.1 < 10007)∧SmF q.2
theorem OkE.nil:OkE []:=fun q hq => nomatch hq
theorem putS_okE {k:Int} {f:List (List Int)} (hk:0 ≤ k∧k < 10007) (hf:SmF f):∀ {e:Elt},OkE e→OkE (putS cmpF e k f)
 | [],_ => by
  unfold putS
  split
  ·exact OkE.nil
  ·intro q hq
   simp only [List.mem_singleton] at hq
   subst hq
   exact ⟨⟨by simp only;omega,hk.2⟩,hf⟩
 | (a,y) :: L,he => by
  obtain ⟨⟨ha1,ha2⟩,hy⟩:=he (a,y) (by simp)
  have hL:OkE L:=fun q hq => he q (by simp [hq])
  unfold putS
  split
  ·exact he
  ·split
   ·intro q hq
    rcases List.mem_cons.1 hq with rfl|hq
    ·exact ⟨⟨by simp only;omega,hk.2⟩,hf⟩
    ·exact he q hq
   ·split
    ·split
     ·exact hL
     ·rename_i h0
      intro q hq
      rcases List.mem_cons.1 hq with rfl|hq
      ·have:=xU (a + k)
       exact ⟨⟨by simp only;omega,this.2⟩,hy⟩
      ·exact hL q hq
    ·intro q hq
     rcases List.mem_cons.1 hq with rfl|hq
     ·exact ⟨⟨ha1,ha2⟩,hy⟩
     ·exact putS_okE hk hf hL q hq
theorem putS_len (k:Int) (f:List (List Int)):∀ (e:Elt),(putS cmpF e k f).length ≤ e.length + 1
 | [] => by unfold putS;split <;> simp
 | (a,y) :: L => by
  have ih:=putS_len k f L
  unfold putS
  repeat' split
  all_goals simp only [List.length_cons] at ih ⊢
  all_goals omega
theorem addS_okE:∀ {M d:Elt},OkE d→(∀ q ∈ M,(0 ≤ q.1∧q.1 < 10007)∧SmF q.2)→OkE (addS cmpF d M)
 | [],d,hd,_ => hd
 | q :: M,d,hd,hM => by
  obtain ⟨h1,h2⟩:=hM q (by simp)
  exact addS_okE (M:=M) (putS_okE h1 h2 hd) (fun z hz => hM z (by simp [hz]))
theorem addS_len:∀ (M d:Elt),(addS cmpF d M).length ≤ d.length + M.length
 | [],d => Nat.le_refl _
 | q :: M,d => by
  have h1:=addS_len M (putS cmpF d q.1 q.2)
  have h2:=putS_len q.1 q.2 d
  show (addS cmpF (putS cmpF d q.1 q.2) M).length ≤ _
  simp only [List.length_cons];omega
theorem small_mul {a b:Int} (ha:0 ≤ a∧a < 10007) (hb:0 ≤ b∧b < 10007):0 ≤ a * b∧a * b ≤ 100140049:=by
 refine ⟨Int.mul_nonneg ha.1 hb.1,?_⟩
 have h1:=Int.mul_le_mul (show a ≤ 10007 by omega) (show b ≤ 10007 by omega) hb.1 (by decide)
 omega
end Go.Proofs.YtedgfkpfhonlpaaGreat
namespace Go.Proofs.YtedgfkpfhonlpaaGreat
open Go.RowKit
theorem szP.at {e:List (Int × List (List Int))} (h:szP e) {i:Nat} (hi:i < e.length):qX e[i].2 ≤ 1048576∧e[i].2.length ≤ 1048576:=by
 have:=szN_mem (List.getElem_mem hi)
 unfold szP at h
 omega
theorem okP_no1 {e:Elt} {i:Nat} {c:Int} {f:List (List Int)} (h:e.getD i (0,[]) = (c,f)) (hc:isNum c = false ∨ c = 0):okP e i = false:=by
 unfold okP
 rw [h]
 unfold isNum inR at hc
 by_cases h1:1 ≤ c
 ·have h2:¬ c < 10007:=by simp at hc;omega
  rw [decide_eq_false h2,Bool.and_false,Bool.false_and,Bool.false_and]
 ·rw [decide_eq_false h1,Bool.false_and,Bool.false_and,Bool.false_and]
theorem okP_no2 {e:Elt} {i:Nat} {c:Int} {f:List (List Int)} (h:e.getD i (0,[]) = (c,f)) (hc:forB f = false):okP e i = false:=by
 unfold okP;rw [h,hc,Bool.and_false,Bool.false_and]
theorem okP_no3 {e:Elt} {i:Nat} {c:Int} {f g:List (List Int)} {k:Int} (h:e.getD i (0,[]) = (c,f)) (h2:e.getD (i - 1) (0,[]) = (k,g)) (h0:i ≠ 0) (hc:¬ cmpF g f < 0):okP e i = false:=by
 unfold okP;rw [h,h2,decide_eq_false h0,decide_eq_false hc,Bool.or_self,Bool.and_false]
theorem okP_yes {e:Elt} {i:Nat} {c:Int} {f g:List (List Int)} {k:Int} (h:e.getD i (0,[]) = (c,f)) (h2:e.getD (i - 1) (0,[]) = (k,g)) (hn:isNum c = true) (h1:c ≠ 0) (hf:forB f = true) (h0:i = 0 ∨ cmpF g f < 0):okP e i = true:=by
 unfold isNum inR at hn
 simp at hn
 unfold okP
 rw [h,h2,decide_eq_true (show 1 ≤ c by omega),decide_eq_true (show c < 10007 by omega),hf]
 rcases h0 with h0|h0
 ·rw [decide_eq_true h0];rfl
 ·rw [decide_eq_true h0,Bool.or_true];rfl
end Go.Proofs.YtedgfkpfhonlpaaGreat
namespace Go.Proofs.YtedgfkpfhonlpaaGreat
open Go.RowKit
theorem a_impl_IsNumber (n:Int):AFn Tryz.prog 86 [eI n] (· = [.val (.bool (isNum n))]):=afn_I_s (v:=.bool _) (enters_of Tryz.func86 rfl rfl) (fun _ _ => jF.2 rfl) (fun w => yP0 n w)
noncomputable def TEl:Tab Tryz.prog :=
 ((Tab.none.add 86 (tab1 codI fun n => some [.val (.bool (isNum n))]) (xD fun n rs h => by cases h;exact a_impl_IsNumber n)).add
   59 (tab1 codLL fun f => if qX f ≤ 1048576∧f.length ≤ 1048576 then some [.val (.bool (forB f))] else none) (xD fun f rs h => by split at h;cases h;rename_i hs;exact a_impl_IsForest f (by omega) (by omega);cases h)).add
   87 (tab2 codLL codLL fun f g => if qX f ≤ 1048576∧qX g ≤ 1048576 then some [.val (.int (cmpF f g))] else none) (xP fun f g rs h => by split at h;cases h;rename_i hs;exact yV0 f g (by omega) (by omega);cases h)
theorem yL0 (e:Elt) (hsz:szP e):AFn Tryz.prog 32 [[.sl 2 (e.map ePt)]] (· = [.val (.bool (elB e))]):=by
 refine AFn.of_runs (qJ 47) Tryz.func32 rfl rfl rfl gz ?_
 have hres:Tryz.f32.results.toList = [.tmp 2]:=rfl
 have hrts:Tryz.f32.resultTypes.toList = [4]:=rfl
 simp only [qU,qT,eL,eI,eLL,eB,Nat.zero_add,Nat.reduceAdd]
 intro M
 refine qQ.of ?_
 have hln:e.length ≤ 1048576:=by unfold szP at hsz;omega
 by_cases h3:e.length ≤ 300
 ·have i8:((e.length:Int) > 300) = False:=eq_false (by omega)
  refine gw49 (kk 11) i8 ?_
  refine qQ.loop (β:=Nat) (γ:=Unit) (fun i => ⟨[(0,.c (.val (.sl 2 (e.map ePt)))),(8,.c (.val (.sl 2 (e.map ePt)))),(9,.c (.val (.int e.length))),(10,.c (.val (.int i)))],[]⟩) (fun i => i ≤ e.length∧(List.range i).all (okP e) = true) (fun i => e.length - i)
   (fun _ => ⟨[],[]⟩) (fun _ => (List.range e.length).all (okP e) = true) 0 ⟨Nat.zero_le _,rfl⟩ ?_ ?_ ?_
  ·exact gw50
  ·rintro i ⟨hi,hall⟩
   have hw:=qH (n:=i) (by omega)
   by_cases h:i < e.length
   ·have i1:((i:Int) < (e.length:Int)) = True:=eq_true (by omega)
    have i2:((0:Int) ≤ (i:Int)) = True:=eq_true (by omega)
    have hs1:=hsz.at h
    obtain ⟨c,f,ht⟩:∃ c f,(c,f) = e[i]:=⟨_,_,rfl⟩
    have hg:(e.map ePt)[i]? = some [.int c,.sl 1 (f.map eL)]:=by rw [qD h,← ht];rfl
    have hgd:e.getD i (0,[]) = (c,f):=by rw [jU h,ht]
    rw [← ht] at hs1
    simp only at hs1
    have s1:=eq_true hs1
    have s1':=eq_true hs1.1
    by_cases hc0:c = 0
    ·have e0:(c == 0) = true:=by rw [hc0];rfl
     have hB:elB e = false:=by unfold elB;rw [wH h (okP_no1 hgd (.inr hc0)),Bool.and_false]
     rw [hB]
     refine gw51 (kk 11) (Y5 i1 i2 hg hw e0) ?_
     refine qZ.ret ?_
     refine gw52 (kk 11) Y0 ?_
     exact gw8
    ·have e0:(c == 0) = false:=beq_eq_false_iff_ne.2 hc0
     by_cases hn:isNum c = true
     ·by_cases hf:forB f = true
      ·by_cases h0:i = 0
       ·have j1:((i:Int) > 0) = False:=eq_false (by omega)
        have hok:okP e i = true:=okP_yes hgd rfl hn hc0 hf (.inl h0)
        refine gw51 (kk 11) (Y9 i1 i2 hg hw e0 hn hf s1 j1) ?_
        refine qZ.on (i + 1) ⟨⟨h,jY0 hall hok⟩,by omega⟩ ?_
        exact gw6 Y0
       ·have j1:((i:Int) > 0) = True:=eq_true (by omega)
        have hw1:w64 ((i:Int) - 1) = ((i - 1:Nat):Int):=by rw [qN (by omega)];omega
        have i3:((0:Int) ≤ ((i - 1:Nat):Int)) = True:=eq_true (by omega)
        have i4:(((i - 1:Nat):Int) < (e.length:Int)) = True:=eq_true (by omega)
        have hs2:=hsz.at (show i - 1 < e.length by omega)
        obtain ⟨k,g,ht2⟩:∃ k g,(k,g) = e[i - 1]:=⟨_,_,rfl⟩
        have hg2:(e.map ePt)[i - 1]? = some [.int k,.sl 1 (g.map eL)]:=by rw [qD (by omega),← ht2];rfl
        have hgd2:e.getD (i - 1) (0,[]) = (k,g):=by rw [jU (by omega),ht2]
        rw [← ht2] at hs2
        simp only at hs2
        have s2:(qX g ≤ 1048576∧qX f ≤ 1048576) = True:=eq_true ⟨hs2.1,hs1.1⟩
        by_cases hk:cmpF g f < 0
        ·have hok:okP e i = true:=okP_yes hgd hgd2 hn hc0 hf (.inr hk)
         have k1:(cmpF g f ≥ 0) = False:=eq_false (by omega)
         refine gw51 (kk 11) (Y12 i1 i2 i3 i4 hg hg2 hw hw1 e0 hn hf (Y4 s1 s2 j1 k1)) ?_
         refine qZ.on (i + 1) ⟨⟨h,jY0 hall hok⟩,by omega⟩ ?_
         exact gw6 Y0
        ·have hB:elB e = false:=by unfold elB;rw [wH h (okP_no3 hgd hgd2 h0 hk),Bool.and_false]
         have k1:(cmpF g f ≥ 0) = True:=eq_true (by omega)
         rw [hB]
         refine gw51 (kk 11) (Y12 i1 i2 i3 i4 hg hg2 hw hw1 e0 hn hf (Y4 s1 s2 j1 k1)) ?_
         refine qZ.ret ?_
         refine gw52 (kk 11) Y0 ?_
         exact gw8
      ·have hf:forB f = false:=by simpa using hf
       have hB:elB e = false:=by unfold elB;rw [wH h (okP_no2 hgd hf),Bool.and_false]
       rw [hB]
       refine gw51 (kk 11) (Y8 i1 i2 hg hw e0 hn hf s1) ?_
       refine qZ.ret ?_
       refine gw52 (kk 11) Y0 ?_
       exact gw8
     ·have hn:isNum c = false:=by simpa using hn
      have hB:elB e = false:=by unfold elB;rw [wH h (okP_no1 hgd (.inl hn)),Bool.and_false]
      rw [hB]
      refine gw51 (kk 11) (Y6 i1 i2 hg hw e0 hn) ?_
      refine qZ.ret ?_
      refine gw52 (kk 11) Y0 ?_
      exact gw8
   ·have i1:((i:Int) < (e.length:Int)) = False:=eq_false (by omega)
    obtain rfl:i = e.length:=by omega
    refine gw52 (kk 11) i1 ?_
    refine qZ.out () hall ?_
    exact gw6 Y0
  ·rintro _ hall
   have hB:elB e = true:=by unfold elB;rw [hall,decide_eq_true h3];rfl
   rw [hB]
   refine gw52 (kk 11) Y0 ?_
   exact gw8
 ·have i8:((e.length:Int) > 300) = True:=eq_true (by omega)
  have hB:elB e = false:=by unfold elB;rw [decide_eq_false h3,Bool.false_and]
  rw [hB]
  refine gw49 (kk 11) i8 ?_
  exact gw8
end Go.Proofs.YtedgfkpfhonlpaaGreat
namespace Go.Proofs.YtedgfkpfhonlpaaGreat
open Go.RowKit
def cmpTe:Spl→Spl→Int:=pairC cmpF cmpF
structure PutTI (e:List (Int × Spl)) (k:Int) (x:Spl) (y:Nat × Bool × List (Int × Spl)):Prop where
 le:y.1 ≤ e.length
 no:y.2.1 = false→k ≠ 0∧y.2.2 = e.take y.1∧∀ q ∈ e.take y.1,0 < cmpTe x q.2
 yes:y.2.1 = true→y.2.2 ++ e.drop y.1 = putS cmpTe e k x
 len:y.2.2.length ≤ y.1 + 1
end Go.Proofs.YtedgfkpfhonlpaaGreat
namespace Go.Proofs.YtedgfkpfhonlpaaGreat
def Eqm (a b:Int):Prop:=∃ k,a = b + 10007 * k
theorem Eqm.refl (a:Int):Eqm a a:=⟨0,by omega⟩
theorem Eqm.of {a b:Int} (h:a = b):Eqm a b:=h ▸ Eqm.refl a
theorem Eqm.symm {a b:Int}:Eqm a b→Eqm b a:=fun ⟨k,h⟩ => ⟨-k,by omega⟩
theorem Eqm.trans {a b d:Int}:Eqm a b→Eqm b d→Eqm a d:=fun ⟨k,h⟩ ⟨m,h'⟩ => ⟨k + m,by omega⟩
theorem Eqm.add {a b d e:Int}:Eqm a b→Eqm d e→Eqm (a + d) (b + e):=fun ⟨k,h⟩ ⟨m,h'⟩ => ⟨k + m,by omega⟩
theorem Eqm.mulL {a b:Int} (d:Int):Eqm a b→Eqm (d * a) (d * b):=fun ⟨k,h⟩ => ⟨d * k,by rw [h,Int.mul_add,Int.mul_left_comm]⟩
theorem Eqm.mulR {a b:Int} (d:Int):Eqm a b→Eqm (a * d) (b * d):=fun h => by rw [Int.mul_comm a,Int.mul_comm b];exact h.mulL d
theorem eqm_mP (a:Int):Eqm (mP a) a:=⟨-(a / 10007),by unfold mP;omega⟩
theorem Eqm.mP {a b:Int}:Eqm a b→mP a = mP b:=fun ⟨k,h⟩ => by unfold Go.Proofs.YtedgfkpfhonlpaaGreat.mP;omega
section
variable {κ:Type}
variable {c:κ→κ→Int} (hc:Cmp c)
include hc
omit hc
theorem addS_memL:∀ (M L:List (Int × κ)) {q:Int × κ},q ∈ addS c L M→(∃ p ∈ L,p.2 = q.2) ∨ ∃ p ∈ M,p.2 = q.2
 | [],L,q,h => .inl ⟨q,h,rfl⟩
 | r :: M,L,q,h => by
  rcases addS_memL M (putS c L r.1 r.2) h with ⟨p,h1,h2⟩|⟨p,h1,h2⟩
  ·rcases putS_mem L r.1 r.2 h1 with h3|⟨p',h3,h4⟩
   ·exact .inr ⟨r,by simp,by rw [← h2,h3]⟩
   ·exact .inl ⟨p',h3,by rw [h4,h2]⟩
  ·exact .inr ⟨p,by simp [h1],h2⟩
theorem sumS_mem {M:List (Int × κ)} {q:Int × κ} (h:q ∈ sumS c M):∃ p ∈ M,p.2 = q.2:=by
 rcases addS_memL M [] h with ⟨p,h1,_⟩|h
 ·cases h1
 ·exact h
end
theorem pairwise_at {α:Type} {r:α→α→Prop} {l:List α} (h:l.Pairwise r) {i j:Nat} (hi:i < l.length) (hj:j < l.length) (hij:i < j):r l[i] l[j]:=List.pairwise_iff_getElem.1 h i j hi hj hij
theorem forB_of {f:List (List Int)} (h1:qX f ≤ 8) (h2:∀ t ∈ f,canT t = true) (h3:f.Pairwise fun a b => cmpT a b ≤ 0):forB f = true:=by
 unfold forB
 rw [Bool.and_eq_true,vX]
 refine ⟨decide_eq_true h1,fun i hi => ?_⟩
 unfold okT
 rw [jU hi,h2 _ (List.getElem_mem _),Bool.true_and,Bool.or_eq_true]
 rcases Nat.eq_zero_or_pos i with h|h
 ·exact .inl (decide_eq_true h)
 ·refine .inr (decide_eq_true ?_)
  rw [jU (show i - 1 < f.length by omega)]
  exact pairwise_at h3 (by omega) hi (by omega)
theorem elB_of {e:Elt} (h1:e.length ≤ 300) (h2:NfS cmpF e) (h3:∀ p ∈ e,forB p.2 = true):elB e = true:=by
 unfold elB
 rw [Bool.and_eq_true,vX]
 refine ⟨decide_eq_true h1,fun i hi => ?_⟩
 unfold okP
 have h4:=h2.2 _ (List.getElem_mem hi)
 rw [jU hi,h3 _ (List.getElem_mem _),Bool.and_true,decide_eq_true h4.1,decide_eq_true h4.2,Bool.true_and,Bool.true_and,Bool.or_eq_true]
 rcases Nat.eq_zero_or_pos i with h|h
 ·exact .inl (decide_eq_true h)
 ·refine .inr (decide_eq_true ?_)
  rw [jU (show i - 1 < e.length by omega)]
  exact pairwise_at h2.1 (by omega) hi (by omega)
theorem limS_ok {L:Elt} (h:(limS L).2 = 0):limS L = (L,0)∧L.length ≤ 300∧∀ p ∈ L,qX p.2 ≤ 8:=by
 unfold limS at h ⊢
 split at h
 ·rename_i h1;rw [if_pos h1];exact ⟨rfl,h1⟩
 ·exact absurd h (by decide)
theorem limS_code (L:Elt):limS L = (L,0) ∨ limS L = ([],3):=by
 unfold limS
 split
 ·exact .inl rfl
 ·exact .inr rfl
theorem limS_of {L:Elt} (h1:L.length ≤ 300) (h2:∀ p ∈ L,qX p.2 ≤ 8):limS L = (L,0):=by unfold limS;rw [if_pos ⟨h1,h2⟩]
end Go.Proofs.YtedgfkpfhonlpaaGreat
namespace Go.Proofs.YtedgfkpfhonlpaaGreat
open Go.RowKit Go.Shelf
theorem flatMap_getG {α β:Type} (enc:α→List β) (k:Nat) (hk:∀ x,(enc x).length = k) (hp:0 < k):∀ (l:List α) (t:Nat),(l.flatMap enc)[t]? = (l[t / k]?).bind fun x => (enc x)[t % k]?
 | [],t => by simp
 | x :: l,t => by
  rw [List.flatMap_cons]
  by_cases h:t < k
  ·rw [List.getElem?_append_left (by rw [hk];exact h),Nat.div_eq_of_lt h,Nat.mod_eq_of_lt h];rfl
  ·rw [List.getElem?_append_right (by rw [hk];omega),hk,flatMap_getG enc k hk hp l (t - k)]
   have e1:t / k = (t - k) / k + 1:=by rw [Nat.div_eq_sub_div hp (by omega)]
   have e2:t % k = (t - k) % k:=Nat.mod_eq_sub_mod (by omega)
   rw [e1,e2,List.getElem?_cons_succ]
theorem flatK_listG {α:Type} [Inhabited α] (enc:α→List Value) (k:Nat) (hk:∀ x,(enc x).length = k) (hp:0 < k) (d:Array α):(Go.Sort.flatK enc k d).toList = d.toList.flatMap enc:=by
 have hl:∀ (l:List α),(l.flatMap enc).length = l.length * k:=by
  intro l
  induction l with
  | nil => simp
  | cons x l ih => rw [List.flatMap_cons,List.length_append,hk,ih,List.length_cons,Nat.succ_mul];omega
 refine List.ext_getElem? fun t => ?_
 by_cases h:t < d.size * k
 ·have hs:t < (Go.Sort.flatK enc k d).toList.length:=by simpa using h
  have hq:t / k < d.size:=Nat.div_lt_of_lt_mul (by rw [Nat.mul_comm];exact h)
  rw [flatMap_getG enc k hk hp,List.getElem?_eq_getElem hs]
  have e1:=Go.Sort.get_flatK enc k d t h
  rw [getElem!_pos (Go.Sort.flatK enc k d) t (by simpa using h),getElem!_pos d (t / k) hq] at e1
  have hm:t % k < (enc d[t / k]).length:=by rw [hk];exact Nat.mod_lt _ hp
  rw [getElem!_pos (enc d[t / k]) (t % k) hm] at e1
  rw [List.getElem?_eq_getElem (by simpa using hq),Option.bind_some]
  simp only [Array.getElem_toList]
  rw [List.getElem?_eq_getElem hm,e1]
 ·rw [List.getElem?_eq_none (by simpa using h),List.getElem?_eq_none (by rw [hl];simpa using h)]
section
variable {α:Type} [Inhabited α] (enc:α→List Value) (k:Nat) (w:World) (blk m:Nat) (dk:Array α) (os:Array Go.Obj)
theorem sg_block {b:Nat} (hne:b ≠ blk) (hb:b < w.heap.size):(sortWorldK enc k w blk 0 m dk os).heap[b]? = w.heap[b]?:=by
 show ((w.heap.modify blk _) ++ os)[b]? = _
 rw [Array.getElem?_append_left (by simpa using hb),Array.getElem?_modify,if_neg (fun e => hne e.symm)]
theorem sg_size:w.heap.size ≤ (sortWorldK enc k w blk 0 m dk os).heap.size:=by
 show _ ≤ ((w.heap.modify blk _) ++ os).size
 simp
theorem sg_row {n cap:Nat} {ds:List Value} (h:Row w (slv (some blk) n cap) k n ds (some blk)) (hs:dk.size = n) (hlt:blk < w.heap.size) :
  Row (sortWorldK enc k w blk 0 m dk os) (slv (some blk) n cap) k n (Go.Sort.flatK enc k dk).toList (some blk):=by
 obtain ⟨h0,h⟩:=h
 rcases h with ⟨_,_,h⟩|⟨g,cap',cur,e,hv,hg,hh,hc1,hc2,hc3,hc4⟩
 ·cases h
 ·cases hg
  refine ⟨by simp [hs],.inr ⟨blk,cap',Sort.putCells id 0 (Go.Sort.flatK enc k dk) cur,e,hv,rfl,?_,hc1,hc2,by simpa [Sort.putCells] using hc3,?_⟩⟩
  ·show ((w.heap.modify blk _) ++ os)[blk]? = _
   rw [Array.getElem?_append_left (by simpa using hlt),Array.getElem?_modify,if_pos rfl,hh]
   rfl
  ·have hle:n * k ≤ cap' * k:=Nat.mul_le_mul_right k hc1
   refine List.ext_getElem? fun t => ?_
   by_cases ht:t < n * k
   ·rw [List.getElem?_take_of_lt ht,List.getElem?_eq_getElem (by simp [Sort.putCells];omega),List.getElem?_eq_getElem (by simp [hs];omega)]
    simp only [Array.getElem_toList,Sort.putCells,Array.getElem_mapIdx,id]
    rw [if_pos ⟨Nat.zero_le _,by simp [hs];omega⟩,Nat.sub_zero,getElem!_pos _ t (by simp [hs];omega)]
   ·rw [List.getElem?_eq_none (by simp;omega),List.getElem?_eq_none (by simp [hs];omega)]
end
abbrev ElC {β:Type} (e:β→List D) (ok:β→Prop) (A:Nat→Prop) (w:World):Type:={ x:List Value × β // rdCs A w x.1 (e x.2)∧ok x.2 }
theorem elc_of {β:Type} {e:β→List D} {ok:β→Prop} {A:Nat→Prop} {w:World} {k:Nat}:∀ {zs:List β} {ds:List Value},rdR k A w ds (zs.map e)→(∀ z ∈ zs,ok z)→∃ xs:List (ElC e ok A w),ds = xs.flatMap (·.1.1)∧zs = xs.map (·.1.2)
 | [],ds,h,_ => ⟨[],by have:=h.len;simpa using this,rfl⟩
 | z :: zs,ds,h,hz => by
  obtain ⟨c,e',rfl,hy,hc,k1,k2⟩:=h.cons_inv
  obtain ⟨xs,e1,e2⟩:=elc_of k2 (fun z hz' => hz z (by simp [hz']))
  exact ⟨⟨(c,z),k1,hz z (by simp)⟩ :: xs,by rw [e1];rfl,congrArg (z :: ·) e2⟩
theorem elc_to {β:Type} {e:β→List D} {ok:β→Prop} {A:Nat→Prop} {w w':World} {k:Nat} (hkp:0 < k) (hk:∀ z,(e z).length = k) (hf:∀ b,A b→b < w.heap.size→w'.heap[b]? = w.heap[b]?):∀ (xs:List (ElC e ok A w)),rdR k A w' (xs.flatMap (·.1.1)) ((xs.map (·.1.2)).map e)
 | [] => rdR.nil hkp
 | x :: xs => by
  have h1:=x.2.1.frame hf
  have h2:=elc_to hkp hk hf xs
  rw [List.flatMap_cons]
  exact (rdR.single hkp (hk x.1.2) h1).append h2
section
variable {P:Program} {ρ:Ren} (L:SlLaysF0.n6 P ρ) {β κ:Type} (e:β→List D) {k:Nat} (hkp:0 < k) (hk:∀ z,(e z).length = k) (aE:∀ w,(isAgg (ρ.t 24)).run P w = .ok true w) (zE:∀ w,(Go.sizeOf (ρ.t 24)).run P w = .ok k w)
 {c:κ→κ→Int} (hc:Cmp c) (key:β→κ) (ok:β→Prop) (z0:β) (u0:List Value) (h0:∀ A w,rdCs A w u0 (e z0)) (hz0:ok z0) (g:Nat) (eg:∀ args w,(callFunc g args).run P w = .ok (.enter g args) w)
 (hcmp:∀ (W:World) (A:Nat→Prop) (x y:β) (us vs:List Value),(∀ b,A b→b < W.heap.size)→ok x→ok y→rdCs A W us (e x)→rdCs A W vs (e y) →
   Calls P g #[.agg us.toArray,.agg vs.toArray] W fun e w' => e = .returned (.int .i64 (c (key x) (key y)))∧∃ q os',w' = Sort.grow (W.drewN q) os')
include L hkp hk aE zE hc h0 hz0 eg hcmp
theorem a_SortG (call:∀ args w,(callFunc (ρ.f 6) args).run P w = .ok (.enter (ρ.f 6) args) w) (zs:List β) (hok:∀ z ∈ zs,ok z) (hn:zs.length ≤ 1000000000) :
  AEf P (ρ.f 6) false [] k (zs.map e) [[.raw (.func (.func g) #[] #[])]] (fun rs oc => rs = []∧∃ zs':List β,oc = some (zs'.map e)∧zs'.Perm zs∧zs'.Pairwise (fun a b => c (key a) (key b) ≤ 0)):=by
 refine ⟨call,fun A w vs us og cap ds hA hv hu hrow _ hel hog => ?_⟩
 have hv:vs = []:=hv
 subst hv
 obtain ⟨u,us',rfl,hu1,hu2⟩:=hu
 have hu2:us' = []:=hu2
 subst hu2
 have hu1:u = .func (.func g) #[] #[]:=(jL.1 hu1).1
 subst hu1
 have fin:∀ w' (zs':List β) ds',zs'.Perm zs→zs'.Pairwise (fun a b => c (key a) (key b) ≤ 0)→Row w' (slv og zs.length cap) k zs.length ds' og→rdR k A w' ds' (zs'.map e)→Bel ⟨w,fun b => og = some b⟩ w' →
   ∃ v rs oc,(Ending.returned (.tuple #[]):Ending) = .returned v∧(rs = []∧∃ zs':List β,oc = some (zs'.map e)∧zs'.Perm zs∧zs'.Pairwise (fun a b => c (key a) (key b) ≤ 0))∧Bel ⟨w,fun b => og = some b⟩ w' ∧
    kV A (fun b => w.heap.size ≤ b ∨ (oc = none∧og = some b)) w' rs v∧Left A w' og cap k oc∧∀ ys,oc = some ys→ys.length = zs.length:=by
  intro w' zs' ds' hp hso hrow' hrd' hb
  have hl:(zs'.map e).length = (zs.map e).length:=by rw [List.length_map,List.length_map,hp.length_eq]
  refine ⟨.tuple #[],[],some (zs'.map e),rfl,⟨rfl,zs',rfl,hp,hso⟩,hb,⟨[],[],[],rfl,List.nodup_nil,by simp,rfl,rfl,rfl⟩,⟨ds',?_,hrd'⟩,fun ys e => by cases e;rw [hl,List.length_map]⟩
  rw [hl,List.length_map]
  exact hrow'
 rw [List.length_map] at hrow ⊢
 cases og with
 | none =>
  have hz:zs = []:=List.eq_nil_of_length_eq_zero hrow.len0
  subst hz
  refine (AnyF.slices_SortFunc_none L none 0 _ w).mono ?_
  rintro e' w' ⟨rfl,rfl⟩
  exact fin w' [] ds (List.Perm.refl _) List.Pairwise.nil hrow hel ⟨rfl,rfl,rfl,Nat.le_refl _,fun _ _ _ _ => rfl⟩
 | some blk =>
  haveI:Inhabited (ElC e ok A w):=⟨⟨(u0,z0),h0 A w,hz0⟩⟩
  obtain ⟨xs,e1,e2⟩:=elc_of hel hok
  have hlen:xs.toArray.size = zs.length:=by rw [e2];simp
  have hlt:=hrow.lt blk rfl
  have hek:∀ x:ElC e ok A w,x.1.1.length = k:=fun x => by rw [x.2.1.len,hk]
  have hH:Go.Sort.HoldsK (fun x:ElC e ok A w => x.1.1) k w blk 0 xs.toArray:=fun j hj => by
   rw [Nat.zero_add]
   refine ⟨?_,hrow.frozen j⟩
   have hf:=flatK_listG (fun x:ElC e ok A w => x.1.1) k hek hkp xs.toArray
   rw [List.toList_toArray] at hf
   rw [getElem!_pos _ j hj]
   refine hrow.cells j _ ?_
   rw [e1,← hf,List.getElem?_eq_getElem (by simpa using hj)]
   simp
  have hswo:Go.Sort.SWO (ltOf fun x y:ElC e ok A w => c (key x.1.2) (key y.1.2)) :=
   { irrefl:=fun x => decide_eq_false (by show ¬ c _ _ < 0;rw [hc.refl];omega)
     trans:=fun x y z h1 h2 => decide_eq_true (by
     have h1:c (key x.1.2) (key y.1.2) < 0:=of_decide_eq_true h1
     have h2:c (key y.1.2) (key z.1.2) < 0:=of_decide_eq_true h2
     have a1:=hc.anti (key x.1.2) (key y.1.2)
     have a2:=hc.anti (key y.1.2) (key z.1.2)
     have a3:=hc.anti (key z.1.2) (key x.1.2)
     have a4:=hc.anti (key x.1.2) (key z.1.2)
     have t1:=hc.trans (key x.1.2) (key y.1.2) (key z.1.2) (by omega) (by omega)
     rcases Int.lt_or_eq_of_le t1 with t|t
     ·exact t
     ·have e3:=hc.zero _ _ t
      rw [e3] at h1
      omega)
     ntrans:=fun x y z h1 h2 => decide_eq_false (by
     have h1:¬ c (key x.1.2) (key y.1.2) < 0:=of_decide_eq_false h1
     have h2:¬ c (key y.1.2) (key z.1.2) < 0:=of_decide_eq_false h2
     show ¬ c (key x.1.2) (key z.1.2) < 0
     intro h
     have a1:=hc.anti (key x.1.2) (key y.1.2)
     have a2:=hc.anti (key y.1.2) (key z.1.2)
     have:=hc.trans (key z.1.2) (key y.1.2) (key x.1.2) (by have:=hc.anti (key y.1.2) (key z.1.2);omega) (by have:=hc.anti (key x.1.2) (key y.1.2);omega)
     have a3:=hc.anti (key x.1.2) (key z.1.2)
     omega) }
  have hC:CmpLays P g #[] (fun x:ElC e ok A w => x.1.1) k (fun x y:ElC e ok A w => c (key x.1.2) (key y.1.2)) blk 0 xs.toArray.size w:=fun m os dk _ x y => by
   have hfr:∀ b,A b→b < w.heap.size→(sortWorldK (fun x:ElC e ok A w => x.1.1) k w blk 0 m dk os).heap[b]? = w.heap[b]?:=fun b hb hl => sg_block _ k w blk m dk os (fun e => hog b (by rw [e]) hb) hl
   exact hcmp _ A x.1.2 y.1.2 _ _ (fun b hb => Nat.lt_of_lt_of_le (hA b hb) (sg_size _ k w blk m dk os)) x.2.2 y.2.2 (x.2.1.frame hfr) (y.2.1.frame hfr)
  have hs:=AnyQ.slices_SortFunc L k aE zE (fun x:ElC e ok A w => x.1.1) hek (fun x v hv => x.2.1.one v hv) (fun x y:ElC e ok A w => c (key x.1.2) (key y.1.2)) hswo g #[] blk 0 cap xs.toArray w eg hC hH hlt (by rw [hlen];omega)
  rw [hlen] at hs
  have hm:=Calls.mono hs (R':=fun e' w' => ∃ v rs oc,e' = .returned v∧(rs = []∧∃ zs':List β,oc = some (zs'.map e)∧zs'.Perm zs∧zs'.Pairwise (fun a b => c (key a) (key b) ≤ 0))∧Bel ⟨w,fun b => some blk = some b⟩ w' ∧
    kV A (fun b => w.heap.size ≤ b ∨ (oc = none∧some blk = some b)) w' rs v∧Left A w' (some blk) cap k oc∧∀ ys,oc = some ys→ys.length = zs.length) ?_
  ·exact hm
  rintro e' w' ⟨rfl,d',n,os,⟨hp1,_,hp3⟩,hsd,rfl⟩
  have hd:d'.size = zs.length:=by rw [hp1,hlen]
  refine fin _ (d'.toList.map (·.1.2)) _ ?_ ?_ (sg_row _ k w blk n d' os hrow hd hlt) ?_ ⟨rfl,rfl,rfl,sg_size _ k w blk n d' os,fun b hb hne _ => sg_block _ k w blk n d' os (fun e => hne (by rw [e])) hb⟩
  ·rw [e2]
   refine List.Perm.map _ ?_
   rw [← hlen] at hp3
   rw [show d'.extract 0 xs.toArray.size = d' by rw [← hp1];simp,show xs.toArray.extract 0 xs.toArray.size = xs.toArray by simp,List.toList_toArray] at hp3
   exact hp3
  ·rw [List.pairwise_iff_getElem]
   intro i j hi hj hij
   have hi':i < d'.size:=by simpa using hi
   have hj':j < d'.size:=by simpa using hj
   have h1:=hsd i j (Nat.zero_le _) hij (by omega)
   rw [getElem!_pos d' i hi',getElem!_pos d' j hj'] at h1
   have h1:¬ c (key d'[j].1.2) (key d'[i].1.2) < 0:=of_decide_eq_false h1
   have h2:=hc.anti (key d'[j].1.2) (key d'[i].1.2)
   simp only [List.getElem_map,Array.getElem_toList]
   omega
  ·rw [flatK_listG _ k hek hkp]
   exact elc_to hkp hk (fun b hb hl => sg_block _ k w blk n d' os (fun e => hog b (by rw [e]) hb) hl) d'.toList
end
end Go.Proofs.YtedgfkpfhonlpaaGreat
namespace Go.Proofs
open Go.Shelf
def Tryz.sortSp_ren:Go.Shelf.Ren:=⟨fun|6 => 122|15 => 160|14 => 182|28 => 212|29 => 213|20 => 221|21 => 222|22 => 223|23 => 224|24 => 225|25 => 226|26 => 227|27 => 228|46 => 261|47 => 251|48 => 252|49 => 262|50 => 263|57 => 276|n => n,fun|22 => 33|24 => 42|25 => 144|3 => 3|39 => 137|0 => 0|53 => 214|55 => 28|4 => 4|46 => 208|45 => 207|50 => 185|5 => 5|9 => 9|66 => 236|70 => 240|76 => 252|77 => 253|n => n,fun|n => n⟩
theorem Tryz.sortSp:Go.Proofs.SlLaysF0.n6 Tryz.prog Tryz.sortSp_ren:={
 mixed:=by kernel_rfl
 f6:=⟨Tryz.f122.name,by decide,Tryz.func122.trans (congrArg some (by kernel_rfl))⟩
 f14:=⟨Tryz.f182.name,by decide,Tryz.func182.trans (congrArg some (by kernel_rfl))⟩
 f15:=Tryz.func160.trans (congrArg some (by kernel_rfl))
 f20:=⟨Tryz.f221.name,by decide,Tryz.func221.trans (congrArg some (by kernel_rfl))⟩
 f21:=⟨Tryz.f222.name,by decide,Tryz.func222.trans (congrArg some (by kernel_rfl))⟩
 f22:=⟨Tryz.f223.name,by decide,Tryz.func223.trans (congrArg some (by kernel_rfl))⟩
 f23:=⟨Tryz.f224.name,by decide,Tryz.func224.trans (congrArg some (by kernel_rfl))⟩
 f24:=⟨Tryz.f225.name,by decide,Tryz.func225.trans (congrArg some (by kernel_rfl))⟩
 f25:=⟨Tryz.f226.name,by decide,Tryz.func226.trans (congrArg some (by kernel_rfl))⟩
 f26:=⟨Tryz.f227.name,by decide,Tryz.func227.trans (congrArg some (by kernel_rfl))⟩
 f27:=⟨Tryz.f228.name,by decide,Tryz.func228.trans (congrArg some (by kernel_rfl))⟩
 f28:=Tryz.func212.trans (congrArg some (by kernel_rfl))
 f29:=Tryz.func213.trans (congrArg some (by kernel_rfl))
 f46:=⟨Tryz.f261.name,by decide,Tryz.func261.trans (congrArg some (by kernel_rfl))⟩
 f47:=Tryz.func251.trans (congrArg some (by kernel_rfl))
 f48:=Tryz.func252.trans (congrArg some (by kernel_rfl))
 f49:=⟨Tryz.f262.name,by decide,Tryz.func262.trans (congrArg some (by kernel_rfl))⟩
 f50:=⟨Tryz.f263.name,by decide,Tryz.func263.trans (congrArg some (by kernel_rfl))⟩
 f57:=⟨Tryz.f276.name,by decide,Tryz.func276.trans (congrArg some (by kernel_rfl))⟩
 t0:=Tryz.underlying0
 a0:=Tryz.isAgg0
 z0:=Tryz.sizeOf0
 v0:=Tryz.zeroValue0
 t3:=Tryz.underlying3
 a3:=Tryz.isAgg3
 z3:=Tryz.sizeOf3
 v3:=Tryz.zeroValue3
 t4:=Tryz.underlying4
 a4:=Tryz.isAgg4
 z4:=Tryz.sizeOf4
 v4:=Tryz.zeroValue4
 t5:=Tryz.underlying5
 a5:=Tryz.isAgg5
 z5:=Tryz.sizeOf5
 v5:=Tryz.zeroValue5
 t9:=Tryz.underlying9
 a9:=Tryz.isAgg9
 z9:=Tryz.sizeOf9
 v9:=Tryz.zeroValue9
 t22:=Tryz.underlying33
 a22:=Tryz.isAgg33
 z22:=Tryz.sizeOf33
 v22:=Tryz.zeroValue33
 t25:=Tryz.underlying144
 a25:=Tryz.isAgg144
 z25:=Tryz.sizeOf144
 v25:=Tryz.zeroValue144
 t39:=Tryz.underlying137
 a39:=Tryz.isAgg137
 z39:=Tryz.sizeOf137
 v39:=Tryz.zeroValue137
 t45:=Tryz.underlying207
 a45:=Tryz.isAgg207
 z45:=Tryz.sizeOf207
 v45:=Tryz.zeroValue207
 t46:=Tryz.underlying208
 a46:=Tryz.isAgg208
 z46:=Tryz.sizeOf208
 v46:=Tryz.zeroValue208
 t50:=Tryz.underlying185
 a50:=Tryz.isAgg185
 z50:=Tryz.sizeOf185
 v50:=Tryz.zeroValue185
 t53:=Tryz.underlying214
 a53:=Tryz.isAgg214
 z53:=Tryz.sizeOf214
 v53:=Tryz.zeroValue214
 t55:=Tryz.underlying28
 a55:=Tryz.isAgg28
 z55:=Tryz.sizeOf28
 v55:=Tryz.zeroValue28
 t66:=Tryz.underlying236
 a66:=Tryz.isAgg236
 z66:=Tryz.sizeOf236
 v66:=Tryz.zeroValue236
 t70:=Tryz.underlying240
 a70:=Tryz.isAgg240
 z70:=Tryz.sizeOf240
 v70:=Tryz.zeroValue240
 t76:=Tryz.underlying252
 a76:=Tryz.isAgg252
 z76:=Tryz.sizeOf252
 v76:=Tryz.zeroValue252
 t77:=Tryz.underlying253
 a77:=Tryz.isAgg253
 z77:=Tryz.sizeOf253
 v77:=Tryz.zeroValue253 }
end Go.Proofs
namespace Go.Proofs.YtedgfkpfhonlpaaGreat
open Go.RowKit
section
variable {P:Program} {cfg:Cfg} {M:Nat→Prop} {ops:Array Oper} {s:St} {w0:W0} {w:World} {Ok:Nat→Prop} {N:Nat} {σ:Asg} {a:Act} {fs:List Fr} {Q:Exit→St→Prop}
theorem relCs_repl {H:List (Nat × Obj)} {x y:AC} {post:List AC}:∀ {pre:List AC} {us:List Value},relCs σ H w (pre ++ x :: post) us→(∀ v,us[pre.length]? = some v→relAC σ H w x v→relAC σ H w y v)→relCs σ H w (pre ++ y :: post) us
 | [],us,h,hy => by
  obtain ⟨v,us',rfl,h1,h2,h3⟩:=h
  exact ⟨v,us',rfl,h1,hy v rfl h2,h3⟩
 | p :: pre,us,h,hy => by
  obtain ⟨v,us',rfl,h1,h2,h3⟩:=h
  exact ⟨v,us',rfl,h1,h2,relCs_repl h3 (fun u hu hx => hy u (by simpa using hu) hx)⟩
theorem relCs_at {H:List (Nat × Obj)} {x:AC} {post:List AC}:∀ {pre:List AC} {us:List Value},relCs σ H w (pre ++ x :: post) us→∀ v,us[pre.length]? = some v→relAC σ H w x v
 | [],us,h,v,hv => by
  obtain ⟨u,us',rfl,h1,h2,h3⟩:=h
  have:u = v:=by simpa using hv
  subst this;exact h2
 | p :: pre,us,h,v,hv => by
  obtain ⟨u,us',rfl,h1,h2,h3⟩:=h
  exact relCs_at h3 v (by simpa using hv)
theorem Sim.markA (h:Sim w0 Ok N σ s a w) {r key k n:Nat} {xs:List (List D)} {pre post:List AC} (hr:look r s.regs = some (.agg (pre ++ .own key n :: post))) (hk:look key s.heap = some (.row k xs true)) :
  Sim w0 Ok N σ ⟨insR r (.agg (pre ++ .val (.tag (fp σ key (.row k xs true)) (.sl k xs)) :: post)) s.regs,drop key s.heap⟩ a w:=by
 have hro:=h.rows key _ hk
 obtain ⟨ds,hrow,hkp,hel⟩:=hro.row
 have hel:ownR k w ds xs (σ.F key):=hel
 have hrow:Row w (slv (σ.g key) xs.length (σ.cap key)) k xs.length ds (σ.g key):=hrow
 have hs:∀ q o,look q (drop key s.heap) = some o→q ≠ key∧look q s.heap = some o:=fun q o hq => by
  rw [yU] at hq
  by_cases e:q = key
  ·rw [if_pos e] at hq;cases hq
  ·rw [if_neg e] at hq;exact ⟨e,hq⟩
 have h1:=h.forget (regs':=s.regs) (H':=drop key s.heap) (fun _ _ h => h) (fun q o hq => (hs q o hq).2)
 refine ⟨h1.below,h1.ok1,h1.ok2,h1.defers,h1.size,fun q av hq => ?_,h1.rows,h1.disj,h1.inv,h1.hid⟩
 rw [jJ] at hq
 by_cases e:r = q
 ·rw [if_pos e] at hq
  subst e
  cases hq
  obtain ⟨us,hv1,hv2⟩:=h.regs r _ hr
  obtain ⟨us',hv1',hv2'⟩:=h1.regs r _ hr
  have eu:us' = us:=by rw [hv1] at hv1';simpa using hv1'.symm
  subst eu
  refine ⟨us',hv1,relCs_repl hv2' (fun v hv _ => ?_)⟩
  obtain ⟨e1,e2⟩:=relCs_at hv2 v hv _ hk
  have e1:n = xs.length:=e1
  show rdV _ w v (.tag _ (.sl k xs))
  rw [e2,e1]
  refine kZ.2 ⟨fun b hb => ⟨?_,?_,fun q o hq e => ?_⟩,kH.2 ⟨σ.g key,ds,σ.F key,hrow,hel,rfl⟩⟩
  ·rcases List.mem_append.1 hb with hb|hb
   ·exact hrow.lt b (by simpa using hb)
   ·exact hel.lt b hb
  ·exact h.ok1 b (hro.fresh b hb)
  ·obtain ⟨hne,hq⟩:=hs q o hq
   exact h.disj key _ q o hk hq (fun e => hne e.symm) b hb (qI e)
 ·rw [if_neg e] at hq
  exact h1.regs q av hq
theorem qY.markA2 {l:List Oper} {Q:St→Prop} {r key1 key2 k1 k2 n1 n2:Nat} {xs ys:List (List D)} {z:List AC} (hr:look r s.regs = some (.agg (.own key1 n1 :: .own key2 n2 :: z))) (hk1:look key1 s.heap = some (.row k1 xs true))
  (hk2:look key2 s.heap = some (.row k2 ys true)) (hk:key1 ≠ key2)
  (h:∀ F G,(F ++ G).Nodup→(∀ b ∈ F ++ G,M b)→qY P cfg M ops l Q ⟨insR r (.agg (.val (.tag F (.sl k1 xs)) :: .val (.tag G (.sl k2 ys)) :: z)) (insR r (.agg (.val (.tag F (.sl k1 xs)) :: .own key2 n2 :: z)) s.regs),drop key2 (drop key1 s.heap)⟩):qY P cfg M ops l Q s:=by
 intro w0 Ok σ a w Q' hM hS hQ
 have h1:=hS.markA (r:=r) (pre:=[]) hr hk1
 have hk2':look key2 (drop key1 s.heap) = some (.row k2 ys true):=by rw [yU,if_neg (fun e => hk e.symm)];exact hk2
 have h2:=h1.markA (r:=r) (key:=key2) (n:=n2) (k:=k2) (xs:=ys) (pre:=[.val (.tag (fp σ key1 (.row k1 xs true)) (.sl k1 xs))]) (post:=z) (by rw [jJ,if_pos rfl];rfl) hk2'
 have f1:=hS.rows key1 _ hk1
 have f2:=hS.rows key2 _ hk2
 refine h (fp σ key1 (.row k1 xs true)) (fp σ key2 (.row k2 ys true)) ?_ (fun b hb => ?_) w0 Ok σ a w Q' hM h2 hQ
 ·refine List.nodup_append.2 ⟨f1.nodup,f2.nodup,fun b hb c hc e => ?_⟩
  subst e
  exact hS.disj key1 _ key2 _ hk1 hk2 hk b hb hc
 ·rcases List.mem_append.1 hb with hb|hb
  ·exact hM.1 ▸ f1.fresh b hb
  ·exact hM.1 ▸ f2.fresh b hb
end
abbrev SpT:=(Spl × Int) × (List Nat × List Nat)
def eSpT (q:SpT):List D:=[.tag q.2.1 (.sl 1 (q.1.1.1.map eL)),.tag q.2.2 (.sl 1 (q.1.1.2.map eL)),.int q.1.2]
def SpT.bl (q:SpT):List Nat:=q.2.1 ++ q.2.2
theorem tag_mkS:∀ (zs:List SpT),TagL ((zs.map (·.1)).map eSp) (zs.map eSpT) ((zs.map SpT.bl).flatten)
 | [] => ⟨rfl,rfl⟩
 | z :: zs => ⟨_,_,SpT.bl z,_,rfl,rfl,⟨_,_,z.2.1,z.2.2,rfl,rfl,.inl rfl,⟨_,_,z.2.2,[],rfl,(List.append_nil _).symm,.inl rfl,⟨_,[],[],[],rfl,rfl,.inr ⟨rfl,rfl,rfl⟩,rfl,rfl⟩⟩⟩,tag_mkS zs⟩
theorem c_gathered1 (W:World) (n m:Int) (u1 u2 v1 v2:Value) (f g h k:List (List Int)) (h1:Rd (RS (RS RI)) W [u1] f) (h2:Rd (RS (RS RI)) W [u2] g) (h3:Rd (RS (RS RI)) W [v1] h) (h4:Rd (RS (RS RI)) W [v2] k) (s1:qX f ≤ 1000000) (s2:qX h ≤ 1000000) :
  Calls Tryz.prog 120 #[.agg #[u1,u2,.int .i64 n],.agg #[v1,v2,.int .i64 m]] W fun e w' => e = .returned (.int .i64 (cmpS (f,g) (h,k)))∧∃ q os',w' = Sort.grow (W.drewN q) os':=by
 obtain ⟨o1,c1,rfl,_,_⟩:=h1.val
 obtain ⟨o2,c2,rfl,_,_⟩:=h2.val
 obtain ⟨o3,c3,rfl,_,_⟩:=h3.val
 obtain ⟨o4,c4,rfl,_,_⟩:=h4.val
 have b1:Below W.heap.size W (W.alloc (.cells #[.slice o1 f.length c1,.slice o2 g.length c2,.int .i64 n] 42)):=(Below.refl _ _).alloc (Nat.le_refl _) _
 have b2:Below W.heap.size W ((W.alloc (.cells #[.slice o1 f.length c1,.slice o2 g.length c2,.int .i64 n] 42)).alloc (.cells #[.slice o3 h.length c3,.slice o4 k.length c4,.int .i64 m] 42)):=b1.alloc (by simp) _
 have hc:=yW0 _ _ f h _ (h1.below b2 (Nat.le_refl _)) (h3.below b2 (Nat.le_refl _)) (by omega) (by omega)
 have hd:=yB0 _ _ g k _ (h2.below b2 (Nat.le_refl _)) (h4.below b2 (Nat.le_refl _))
 have HC:=Lib.hid hc
 have HD:=Lib.hid hd
 have hcs:cmpS (f,g) (h,k) = if cmpF f h = 0 then cmpN g k else cmpF f h:=rfl
 by_cases hz:cmpF f h = 0
 ·have hb:(cmpF f h != 0) = false:=by simp [hz]
  rw [if_pos hz] at hcs
  have HS:=Lib.hid hcs
  clear hc hd b1 b2 h1 h2 h3 h4 hcs
  go_enter Tryz.func120,Tryz.ntmps120
  go_wp2_with (first|(go_at_call 87;refine HC.out.mono ?_;rintro e w' ⟨rfl,rfl⟩)|(go_at_call 121;refine HD.out.mono ?_;rintro e w' ⟨rfl,rfl⟩))
  go_ret
  exact ⟨by rw [HS.out] <;> rfl,0,_,by rw [Sort.alloc_eq_grow,Sort.alloc_eq_grow,Sort.grow_grow];rfl⟩
 ·have hb:(cmpF f h != 0) = true:=bne_iff_ne.2 hz
  rw [if_neg hz] at hcs
  have HS:=Lib.hid hcs
  clear hc hd b1 b2 h1 h2 h3 h4 hcs
  go_enter Tryz.func120,Tryz.ntmps120
  go_wp2_with (first|(go_at_call 87;refine HC.out.mono ?_;rintro e w' ⟨rfl,rfl⟩)|(go_at_call 121;refine HD.out.mono ?_;rintro e w' ⟨rfl,rfl⟩))
  go_ret
  exact ⟨by rw [HS.out] <;> rfl,0,_,by rw [Sort.alloc_eq_grow,Sort.alloc_eq_grow,Sort.grow_grow];rfl⟩
theorem a_compareTrunks (f g:List (List Int)) (hf:SmF f) (hg:SmF g):AFn Tryz.prog 121 [eLL f,eLL g] (· = [.val (.int (cmpN f g))]):=by
 refine ⟨enters_of Tryz.func121 rfl rfl,fun A w vs hA ⟨v1,_,e1,h1,v2,_,e2,h2,e3⟩ => ?_⟩
 subst e3;subst e2;subst e1
 have r1:=Rd.of (rdLL h1)
 have r2:=Rd.of (rdLL h2)
 obtain ⟨oa,c1,k1,m1,m2⟩:=r1.val
 obtain ⟨ob,c2,k2,m3,m4⟩:=r2.val
 refine (yB0 v1 v2 f g w r1 r2).mono ?_
 rintro e w' ⟨rfl,rfl⟩
 have hle:∀ {f:List (List Int)},SmF f→∀ t ∈ f,t.length ≤ maxLen:=fun h t ht => Nat.le_trans (jN ht) (Nat.le_trans h.2 (by decide))
 have hin:qC (cmpN f g):=by
  rw [cmpN_eq]
  have h3:=cmpF_in64 (f:=f) (g:=g) (by have:=hf.2;omega) (by have:=hg.2;omega) (by omega) (by omega) (hle hf) (hle hg)
  have hf1:=hf.1
  have hg1:=hg.1
  split
  ·rename_i e
   by_cases hs:(qX f:Int) = qX g
   ·rw [cmpF_N,if_pos hs,cmpN_eq,if_pos e] at h3;exact h3
   ·exact lexC_in64 f g (hle hf) (hle hg)
  ·unfold qC;omega
 exact ⟨_,_,rfl,rfl,Below.refl _ _,[_],[],[],rfl,List.nodup_nil,by simp,_,[],[],[],[],[],rfl,rfl,rfl,rfl,⟨jZ.2 ⟨rfl,hin⟩,rfl,rfl⟩,rfl,rfl,rfl⟩
end Go.Proofs.YtedgfkpfhonlpaaGreat
namespace Go.Proofs.YtedgfkpfhonlpaaGreat
open Go.RowKit
def stepQ (out:List SpT) (q:SpT):List SpT:=match out.getLast? with
 | some p => if cmpS p.1.1 q.1.1 = 0 then out.dropLast ++ [((p.1.1,p.1.2 + 1),p.2)] else out ++ [q]
 | none => [q]
def runQ (zs:List SpT):List SpT:=zs.foldl stepQ []
theorem stepQ_nil (q:SpT):stepQ [] q = [q]:=rfl
theorem stepQ_eq (out:List SpT) (p q:SpT) (h:cmpS p.1.1 q.1.1 = 0):stepQ (out ++ [p]) q = out ++ [((p.1.1,p.1.2 + 1),p.2)]:=by simp [stepQ,h]
theorem stepQ_ne (out:List SpT) (p q:SpT) (h:¬ cmpS p.1.1 q.1.1 = 0):stepQ (out ++ [p]) q = out ++ [p] ++ [q]:=by simp [stepQ,h]
theorem runQ_snoc (zs:List SpT) (q:SpT):runQ (zs ++ [q]) = stepQ (runQ zs) q:=by unfold runQ;rw [List.foldl_append];rfl
theorem runQ_spec:∀ (n:Nat) (zs:List SpT),zs.length = n→(∀ q ∈ zs,q.1.2 = 1)→(runQ zs).map (·.1) = runsN cmpS (zs.map (·.1.1))∧((runQ zs).map SpT.bl).Sublist (zs.map SpT.bl)∧(runQ zs).length ≤ zs.length∧∀ q ∈ runQ zs,(1 ≤ q.1.2∧q.1.2 ≤ (n:Int))∧∃ p ∈ zs,p.1.1 = q.1.1
 | 0,zs,hn,_ => by
  obtain rfl:=List.eq_nil_of_length_eq_zero hn
  exact ⟨rfl,List.Sublist.refl _,Nat.le_refl _,fun q hq => nomatch hq⟩
 | n + 1,zs,hn,h1 => by
  obtain ⟨zs,q,rfl⟩:=snocN (l:=zs) (by rintro rfl;cases hn)
  have hn':zs.length = n:=by simpa using hn
  obtain ⟨i1,i2,i3,i4⟩:=runQ_spec n zs hn' (fun q hq => h1 q (by simp [hq]))
  have hq1:q.1.2 = 1:=h1 q (by simp)
  rw [runQ_snoc,List.map_append,List.map_cons,List.map_nil,runsN_snoc,← i1,List.map_append,List.map_cons,List.map_nil]
  by_cases h0:runQ zs = []
  ·rw [h0]
   refine ⟨?_,?_,by simp [stepQ],fun z hz => ?_⟩
   ·show [q.1] = [(q.1.1,1)]
    rw [← hq1]
   ·exact List.sublist_append_right _ _
   ·have hz:z = q:=by simpa [stepQ] using hz
    subst hz
    exact ⟨by omega,z,by simp,rfl⟩
  ·obtain ⟨out,p,e⟩:=snocN h0
   rw [e] at i2 i3 i4 ⊢
   have hp:=i4 p (by simp)
   by_cases hc:cmpS p.1.1 q.1.1 = 0
   ·rw [stepQ_eq _ _ _ hc,List.map_append,List.map_append,List.map_cons,List.map_nil,List.map_cons,List.map_nil,stepN_eq _ _ _ hc]
    refine ⟨rfl,?_,by simp at i3 ⊢;omega,fun z hz => ?_⟩
    ·have e2:(out ++ [p]).map SpT.bl = out.map SpT.bl ++ [SpT.bl ((p.1.1,p.1.2 + 1),p.2)]:=by rw [List.map_append];rfl
     rw [List.map_append,List.map_cons,List.map_nil,← e2]
     exact i2.trans (List.sublist_append_left _ _)
    ·rcases List.mem_append.1 hz with hz|hz
     ·obtain ⟨a,b,hb,hb2⟩:=i4 z (by simp [hz])
      exact ⟨by omega,b,by simp [hb],hb2⟩
     ·obtain rfl:=List.mem_singleton.1 hz
      obtain ⟨a,b,hb,hb2⟩:=hp
      exact ⟨by simp only;omega,b,by simp [hb],hb2⟩
   ·rw [stepQ_ne _ _ _ hc]
    refine ⟨?_,?_,by simp at i3 ⊢;omega,fun z hz => ?_⟩
    ·simp only [List.map_append,List.map_cons,List.map_nil]
     rw [stepN_ne _ _ _ hc]
     congr 1
     show [q.1] = [(q.1.1,1)]
     rw [← hq1]
    ·rw [List.map_append]
     exact List.Sublist.append i2 (List.Sublist.refl _)
    ·rcases List.mem_append.1 hz with hz|hz
     ·obtain ⟨a,b,hb,hb2⟩:=i4 z hz
      exact ⟨by omega,b,by simp [hb],hb2⟩
     ·obtain rfl:=List.mem_singleton.1 hz
      exact ⟨by omega,z,by simp,rfl⟩
noncomputable def TGa1:Tab Tryz.prog :=
 (Tab.none.add 87 (tab2 codLL codLL fun f g => if SmF f∧SmF g then some [.val (.int (cmpF f g))] else none) (xP fun f g rs h => by split at h;cases h;rename_i hs;exact yV0 f g (by have:=hs.1.2;omega) (by have:=hs.2.2;omega);cases h)).add
  121 (tab2 codLL codLL fun f g => if SmF f∧SmF g then some [.val (.int (cmpN f g))] else none) (xP fun f g rs h => by split at h;cases h;rename_i hs;exact a_compareTrunks f g hs.1 hs.2;cases h)
theorem a_gathered1 (z y:Spl × Int) (hz:SmS z.1) (hy:SmS y.1):AFn Tryz.prog 120 [eSp z,eSp y] (· = [.val (.int (cmpS z.1 y.1))]):=by
 obtain ⟨⟨f,g⟩,n⟩:=z
 obtain ⟨⟨f',g'⟩,n'⟩:=y
 have e1:=eq_true (And.intro hz.1 hy.1)
 have e2:=eq_true (And.intro hz.2 hy.2)
 simp only at e1 e2
 have hcs:cmpS (f,g) (f',g') = if cmpF f f' = 0 then cmpN g g' else cmpF f f':=rfl
 simp only
 rw [hcs]
 refine AFn.of_runs (qJ 19) Tryz.func120 rfl rfl rfl gz ?_
 have hres:Tryz.f120.results.toList = [.tmp 4]:=rfl
 have hrts:Tryz.f120.resultTypes.toList = [3]:=rfl
 simp only [qU,qT,eL,eI,eLL,eB,Nat.zero_add,Nat.reduceAdd,eSp]
 intro M
 refine qQ.of ?_
 by_cases h0:cmpF f f' = 0
 ·have hb:(cmpF f f' != 0) = false:=by simp [h0]
  rw [if_pos h0]
  refine gw53 (kk 6) (Y3 e1 e2 hb) ?_
  exact gw8
 ·have hb:(cmpF f f' != 0) = true:=bne_iff_ne.2 h0
  rw [if_neg h0]
  refine gw53 (kk 6) (Y3 e1 e2 hb) ?_
  exact gw8
theorem aggSp (w:World):(isAgg 42).run Tryz.prog w = .ok true w:=by
 simp [isAgg,run_underlying Tryz.underlying42]
theorem tSplit:ST Tryz.prog 33 42 (.agg #[.slice none 0 0,.slice none 0 0,.int .i64 0]) 3 56:=ST.mk' (by kernel_rfl) (by kernel_rfl) rfl (by decide)
theorem sizeSp (w:World):(Go.sizeOf 42).run Tryz.prog w = .ok 3 w:=by
 obtain ⟨_,⟨i,hi,_,hs,_⟩,_,_⟩:=tSplit
 simp [Go.sizeOf,typeInfo,hi,hs]
theorem rd_eSpT {A:Nat→Prop} {W:World} {us:List Value} {x:SpT} (hA:∀ b,A b→b < W.heap.size) (h:rdCs A W us (eSpT x)):∃ u1 u2,us = [u1,u2,.int .i64 x.1.2]∧Rd (RS (RS RI)) W [u1] x.1.1.1∧Rd (RS (RS RI)) W [u2] x.1.1.2:=by
 have hl:=h.len
 match us,hl with
 | [u1,u2,u3],_ =>
  obtain ⟨v1,e1,h1⟩:=h.get 0 (by show 0 < 3;decide)
  obtain ⟨v2,e2,h2⟩:=h.get 1 (by show 1 < 3;decide)
  obtain ⟨v3,e3,h3⟩:=h.get 2 (by show 2 < 3;decide)
  obtain rfl:u1 = v1:=by simpa using e1
  obtain rfl:u2 = v2:=by simpa using e2
  obtain rfl:u3 = v3:=by simpa using e3
  have h1:rdV A W u1 (.tag x.2.1 (.sl 1 (x.1.1.1.map eL))):=h1
  have h2:rdV A W u2 (.tag x.2.2 (.sl 1 (x.1.1.2.map eL))):=h2
  have h3:rdV A W u3 (.int x.1.2):=h3
  have r1:=rdLL (xs:=x.1.1.1) h1.un
  have r2:=rdLL (xs:=x.1.1.2) h2.un
  refine ⟨u1,u2,?_,Rd.of r1,Rd.of r2⟩
  rw [(jZ.1 h3).1]
theorem a_sortSp (zs:List SpT) (hok:∀ z ∈ zs,SmS z.1.1) (hn:zs.length ≤ 1000000000) :
  AEf Tryz.prog 122 false [] 3 (zs.map eSpT) [[.raw (.func (.func 120) #[] #[])]] (fun rs oc => rs = []∧∃ zs':List SpT,oc = some (zs'.map eSpT)∧zs'.Perm zs∧zs'.Pairwise (fun a b => cmpS a.1.1 b.1.1 ≤ 0)):=by
 refine a_SortG Tryz.sortSp (k:=3) eSpT (by decide) (fun _ => rfl) aggSp sizeSp xK (·.1.1) (fun z => SmS z.1.1) ((([],[]),0),([],[])) [.slice none 0 0,.slice none 0 0,.int .i64 0] (fun A w => ?_) (by decide) 120 (enters_of Tryz.func120 rfl rfl)
  (fun W A x y us vs hA hx hy hu hv => ?_) (enters_of Tryz.func122 rfl rfl) zs hok hn
 ·have hnil:rdV A w (.slice none 0 0) (.tag [] (.sl 1 [])):=kZ.2 ⟨by simp,kH.2 ⟨none,[],[],Row.nil _ 1,ownR.nil (by decide),rfl⟩⟩
  exact rdCs.cons hnil (rdCs.cons hnil (rdCs.cons (jZ.2 ⟨rfl,by show qC 0;unfold qC;omega⟩) rdCs.nil))
 ·obtain ⟨u1,u2,rfl,r1,r2⟩:=rd_eSpT hA hu
  obtain ⟨v1,v2,rfl,r3,r4⟩:=rd_eSpT hA hv
  exact c_gathered1 W _ _ _ _ _ _ _ _ _ _ r1 r2 r3 r4 (Nat.le_trans hx.1.2 (by decide)) (Nat.le_trans hy.1.2 (by decide))
end Go.Proofs.YtedgfkpfhonlpaaGreat

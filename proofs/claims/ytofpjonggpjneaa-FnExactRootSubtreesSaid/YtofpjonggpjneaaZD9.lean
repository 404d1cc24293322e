/- Lemmas (9). -/
import Derived.Lib.AppendZeros
import Derived.Test.YtofpjonggpjneaaZD1
import Derived.Test.YtofpjonggpjneaaZD4
import Derived.Test.YtofpjonggpjneaaZD5
import Derived.Test.YtofpjonggpjneaaZD6
import Derived.Test.YtofpjonggpjneaaZD8
set_option linter.unusedSimpArgs false
set_option linter.unusedVariables false
namespace Go.Proofs.Ytofpjonggpjneaa
open Go.RowKit
theorem exists_not {l:List Nat}:∃ k,k ∉ l:=by
 have key:∀ (l:List Nat),∀ x ∈ l,x ≤ l.sum:=by
  intro l
  induction l with
  | nil => intro x hx;cases hx
  | cons y l ih =>
   intro x hx
   rw [List.sum_cons]
   rcases List.mem_cons.1 hx with rfl|hx
   ·omega
   ·have:=ih x hx;omega
 exact ⟨l.sum + 1,fun h => by have:=key l _ h;omega⟩
theorem exists_free (s:St):∃ k,Free s k:=by
 obtain ⟨k,hk⟩:=exists_not (l:=s.heap.map (·.1) ++ s.regs.flatMap (·.2.refs) ++ s.heap.flatMap (·.2.refs))
 simp only [List.mem_append,not_or] at hk
 obtain ⟨⟨h1,h2⟩,h3⟩:=hk
 refine ⟨k,?_,fun r av hr hm => h2 (List.mem_flatMap.2 ⟨_,look_all hr,hm⟩),fun q u hq hm => h3 (List.mem_flatMap.2 ⟨_,look_all hq,hm⟩)⟩
 cases e:look k s.heap with
 | none => rfl
 | some o => exact absurd (List.mem_map.2 ⟨_,look_all e,rfl⟩) h1
theorem AC.frz_id {key k:Nat} {xs:List (List D)} {x:AC} (h:key ∉ x.refs):x.frz key k xs = x:=by
 cases x with
 | own q n => simp only [AC.refs,List.mem_singleton] at h;simp only [AC.frz];rw [if_neg (fun e => h e.symm)]
 | view q i n => simp only [AC.refs,List.mem_singleton] at h;simp only [AC.frz];rw [if_neg (fun e => h e.symm)]
 | _ => rfl
theorem acs_frz_id {key k:Nat} {xs:List (List D)}:∀ {cs:List AC},key ∉ cs.flatMap AC.refs→cs.map (AC.frz key k xs) = cs
 | [],_ => rfl
 | c :: cs,h => by
  rw [List.flatMap_cons,List.mem_append,not_or] at h
  rw [List.map_cons,AC.frz_id h.1,acs_frz_id h.2]
theorem AV.frz_id {key k:Nat} {xs:List (List D)} {x:AV} (h:key ∉ x.refs):x.frz key k xs = x:=by
 cases x with
 | c x => simp only [AV.frz];rw [AC.frz_id h]
 | eptr => rfl
 | optr q i j => simp only [AV.refs,List.mem_singleton] at h;simp only [AV.frz];rw [if_neg (fun e => h e.symm)]
 | agg cs => simp only [AV.frz];rw [acs_frz_id h]
 | tup cs => simp only [AV.frz];rw [acs_frz_id h]
 | dead => rfl
theorem Obj.frz_id {key k:Nat} {xs:List (List D)} {o:Obj} (h:key ∉ o.refs):o.frz key k xs = o:=by
 cases o with
 | row => rfl
 | pin => rfl
 | lit k' css =>
  simp only [Obj.frz]
  congr 1
  have h:key ∉ css.flatMap (·.flatMap AC.refs):=h
  have:∀ css:List (List AC),key ∉ css.flatMap (·.flatMap AC.refs)→css.map (·.map (AC.frz key k xs)) = css:=by
   intro css
   induction css with
   | nil => intro _;rfl
   | cons c css ih =>
    intro h
    rw [List.flatMap_cons,List.mem_append,not_or] at h
    rw [List.map_cons,acs_frz_id h.1,ih h.2]
  exact this css h
section
variable {P:Program} {cfg:Cfg} {M:Nat→Prop} {ops:Array Oper} {s s':St} {w0:W0} {w:World} {Ok:Nat→Prop} {N:Nat} {σ:Asg} {a:Act} {fs:List Fr} {Q:Exit→St→Prop} {T:Tab P}
def valD:AV→Option D
 | .c (.val d) => some d
 | _ => Option.none
def devalB (cfg:Cfg) (ops:Array Oper) (o:Oper) (s:St):Option Tel :=
 match o.op with
 | .buildSlice t len parts => if dstOK cfg o = true∧awanted ops s.regs o = some true then
   o.dst.bind fun d => (cfg.sl t).bind fun i => if len = parts.size∧len * i.z.length ≤ 16777216 then (aparts s.regs 0 parts.toList).bind fun css => (rowsD i.z css).map fun r => ⟨⟨d,.c (.val (.sl i.z.length r.1)),[]⟩,opRefs s.regs o.op.operands.toList⟩ else Option.none
  else Option.none
 | .assign x => if dstOK cfg o = true∧awanted ops s.regs o = some true then
   o.dst.bind fun d => ((opv s.regs x).bind valD).map fun v => ⟨⟨d,.c (.val v),[]⟩,[]⟩
  else Option.none
 | _ => Option.none
theorem Does1.asg (C:CfgOK P cfg) {i:Nat} {o:Oper} (hi:ops[i]? = some o) {x:Operand} (hop:o.op = .assign x) (hd:dstOK cfg o = true) {d:Nat} (hdd:o.dst = some d) (hb:awanted ops s.regs o = some true) {v:D} (hv:opv s.regs x = some (.c (.val v))):Does1 P cfg ops i s ⟨⟨d,.c (.val v),[]⟩,[]⟩:=by
 refine ⟨o,hi,hdd,fun s' h1 h2 h3 w0 Ok σ a w K Q hS hK => ?_⟩
 have hw:awanted ops s'.regs o = some true:=by rw [awanted_congr h1,hb]
 have hov:opv s'.regs x = some (.c (.val v)):=by
  rw [← hv]
  cases x with
  | tmp t =>
   have:=h1 t (looks_operand (by rw [hop];simp [Op.operands]))
   simp only [opv,this]
  | _ => rfl
 have hst:astep cfg ops o s' = some (s'.add ⟨d,.c (.val v),[]⟩):=by
  unfold astep
  rw [if_pos hd,hw]
  simp only [Option.bind_some,if_true,hop,isMut,hdd,amut,hov]
  rfl
 have:=astep_wp C hS hst hK (Q:=Q)
 unfold wpOp
 simp only [hi]
 split
 ·rename_i hw2;rw [if_pos hw2] at this;exact .inl this
 ·rename_i hw2;rw [if_neg hw2] at this;exact this
theorem Does1.lit (C:CfgOK P cfg) {i:Nat} {o:Oper} (hi:ops[i]? = some o) {t:Tel} (h:devalB cfg ops o s = some t):Does1 P cfg ops i s t:=by
 unfold devalB at h
 split at h
 ·rename_i ty len parts hop
  split at h
  ·rename_i hc
   obtain ⟨d,hd,h⟩:=bind_some h
   obtain ⟨it,hit,h⟩:=bind_some h
   split at h
   ·rename_i hsz
    obtain ⟨css,hcss,h⟩:=bind_some h
    obtain ⟨⟨xs,b⟩,hr,rfl⟩:=map_some h
    refine ⟨o,hi,hd,fun s' h1 h2 h3 w0 Ok σ a w K Q hS hK => ?_⟩
    have hw:awanted ops s'.regs o = some true:=by rw [awanted_congr h1,hc.2]
    have hopl:o.op.operands.toList = parts.toList.map (·.2):=by rw [hop];rfl
    have hag:=agree_of (xs:=o.op.operands.toList) (fun x hx => hx) h1 h2
    rw [hopl] at hag
    have hcss':aparts s'.regs 0 parts.toList = some css:=by rw [aparts_congr hag,hcss]
    obtain ⟨q,hq⟩:=exists_free s'
    have hmk:mkObj it.z css = some (.row it.z.length xs b):=by unfold mkObj;rw [hr]
    have ha:anew cfg (fun k => look k s'.heap) s'.regs q o.op = some (.c (.own q len),[(q,.row it.z.length xs b)]):=by
     rw [hop]
     simp only [anew,hit,Option.bind_some]
     rw [if_pos hsz,hcss']
     simp only [Option.bind_some,hmk,Option.map_some]
    unfold wpOp
    simp only [hi,awanted_spec hS hw,if_true]
    left
    have hdN:d < cfg.N:=by have:=hc.1;rw [dstOK,hd] at this;simpa using this
    refine anew_doesF C hS (news:=[(q,.row it.z.length xs b)]) (av:=.c (.own q len)) ha (fun p ob hp => ?_) _ _ (fun v w' σ' hv hS' => ?_)
    ·have hp:(if q = p then some (Obj.row it.z.length xs b) else none) = some ob:=hp
     split at hp
     ·rename_i e;subst e;exact hq
     ·cases hp
    ·rw [hd]
     have hS1:=Sim.ins hS' hdN hv
     have hS2:=Sim.frz hS1 q
     refine hK σ' _ _ ?_
     have hlq:look q (⟨insR d (.c (.own q len)) s'.regs,[(q,Obj.row it.z.length xs b)] ++ s'.heap⟩:St).heap = some (.row it.z.length xs b):=by show look q ((q,Obj.row it.z.length xs b) :: s'.heap) = _;rw [look,if_pos rfl]
     have e:(⟨insR d (.c (.own q len)) s'.regs,[(q,Obj.row it.z.length xs b)] ++ s'.heap⟩:St).frz q = ⟨frzR q it.z.length xs (insR d (.c (.own q len)) s'.regs),frzH q it.z.length xs (drop q ([(q,Obj.row it.z.length xs b)] ++ s'.heap))⟩:=by
      unfold St.frz;rw [hlq]
     rw [e] at hS2
     refine hS2.forget (fun r av hr => ?_) (fun k o' ho' => ?_)
     ·have hr:look r (insR d (.c (.val (.sl it.z.length xs))) s'.regs) = some av:=hr
      rw [look_ins] at hr
      show look r (frzR q it.z.length xs (insR d (.c (.own q len)) s'.regs)) = _
      rw [look_frzR,look_ins]
      by_cases er:d = r
      ·rw [if_pos er] at hr ⊢
       cases hr
       show some (AV.c (if q = q then AC.val (.sl it.z.length xs) else AC.own q len)) = _
       rw [if_pos rfl]
      ·rw [if_neg er] at hr ⊢
       rw [hr]
       show some (av.frz q it.z.length xs) = _
       rw [AV.frz_id (hq.2.1 r av hr)]
     ·have ho':look k s'.heap = some o':=ho'
      show look k (frzH q it.z.length xs (drop q ((q,Obj.row it.z.length xs b) :: s'.heap))) = _
      have hkq:k ≠ q:=by rintro rfl;rw [hq.1] at ho';cases ho'
      rw [look_frzH,look_drop,if_neg hkq,look,if_neg (fun e => hkq e.symm),ho']
      show some (o'.frz q it.z.length xs) = _
      rw [Obj.frz_id (hq.2.2 k o' ho')]
   ·cases h
  ·cases h
 ·rename_i x hop
  split at h
  ·rename_i hc
   obtain ⟨d,hd,h⟩:=bind_some h
   obtain ⟨v,hv,rfl⟩:=map_some h
   obtain ⟨av,h1,h2⟩:=bind_some hv
   have:av = .c (.val v):=by
    unfold valD at h2
    split at h2
    ·cases h2;rfl
    ·cases h2
   subst this
   exact Does1.asg C hi hop hc.1 hd hc.2 h1
  ·cases h
 ·cases h
def devalF (fz:List Nat) (cfg:Cfg) (T:Tab P) (ops:Array Oper) (o:Oper) (s:St):Option Tel :=
 bif fz.contains (o.dst.getD 0) then devalB cfg ops o s else devalT cfg T ops o s
def drunF (fz:List Nat) (cfg:Cfg) (T:Tab P) (ops:Array Oper):List Oper→St→List Tel × St × List Oper
 | [],s => ([],s,[])
 | o :: l,s => match devalF fz cfg T ops o s with
  | some t => ((t :: (drunF fz cfg T ops l (s.add t.e)).1),(drunF fz cfg T ops l (s.add t.e)).2)
  | Option.none => ([],s,o :: l)
theorem drunF_spec {fz:List Nat} (C:CfgOK P cfg):∀ {l:List Oper} {i:Nat} {s:St},(∀ j,l[j]? = ops[i + j]?)→Tr P cfg ops i s (drunF fz cfg T ops l s).1 ∧
  (drunF fz cfg T ops l s).2.1 = (drunF fz cfg T ops l s).1.foldl (fun s t => s.add t.e) s∧(drunF fz cfg T ops l s).2.2 = l.drop (drunF fz cfg T ops l s).1.length
 | [],i,s,_ => ⟨trivial,rfl,rfl⟩
 | o :: l,i,s,hl => by
  have hi:ops[i]? = some o:=by have:=hl 0;simpa using this.symm
  simp only [drunF]
  cases hd:devalF fz cfg T ops o s with
  | none => exact ⟨trivial,rfl,rfl⟩
  | some t =>
   obtain ⟨h1,h2,h3⟩:=drunF_spec (fz:=fz) C (l:=l) (i:=i + 1) (s:=s.add t.e) (fun j => by have:=hl (j + 1);simpa [Nat.add_assoc,Nat.add_comm 1 j] using this)
   refine ⟨⟨?_,h1⟩,by simpa using h2,by simpa using h3⟩
   unfold devalF at hd
   cases hb:fz.contains (o.dst.getD 0) with
   | true => rw [hb] at hd;exact Does1.lit C hi hd
   | false => rw [hb] at hd;exact Does1.opT C hi hd
def dregF (s:St):List Tel × St × List Oper→Option (List Tel × St × List Oper)
 | (tr,s1,rest) => if tr.all (fun t => t.e.news.all fun p => fresh s p.1) = true then some (tr,s1,rest) else Option.none
theorem dregF_mk (s:St) (tr:List Tel) (s1:St) (rest:List Oper):dregF s (tr,s1,rest) = if tr.all (fun t => t.e.news.all fun p => fresh s p.1) = true then some (tr,s1,rest) else Option.none:=rfl
theorem RunK.wFz (C:CfgOK P cfg) (T:Tab P) (hm:P.follows .mixedOrders = true) (fz:List Nat) {id:Nat} {tr:List Tel} {s1:St} {rest:List Oper} (hr:Work (dregF s (drunF fz cfg T ops ops.toList s)) (some (tr,s1,rest))) (h1:ChkD ops tr)
  (h:ROps P cfg M ops rest (outK P cfg M fs Q .normal) s1):RunK P cfg M (.region id ops true) fs Q s:=by
 have hr:dregF s (drunF fz cfg T ops ops.toList s) = some (tr,s1,rest):=hr
 obtain ⟨⟨tr0,s10,rest0⟩,e⟩:∃ r,r = drunF fz cfg T ops ops.toList s:=⟨_,rfl⟩
 rw [← e,dregF_mk] at hr
 split at hr
 ·rename_i hf
  cases hr
  obtain ⟨k1,k2,k3⟩:=drunF_spec (T:=T) (fz:=fz) C (ops:=ops) (l:=ops.toList) (i:=0) (s:=s) (fun j => by simp)
  rw [← e] at k1 k2 k3
  refine Runs.draw hm k1 h1 hf ?_
  show ROps P cfg M ops (ops.toList.drop tr.length) _ (tr.foldl (fun s t => s.add t.e) s)
  rw [← k2,← k3]
  exact h
 ·cases hr
end
end Go.Proofs.Ytofpjonggpjneaa
namespace Go.Proofs.Ytofpjonggpjneaa
open Go.RowKit
def D.marks:D→List Nat
 | .tag F _ => F
 | _ => []
def rowMarks (xs:List (List D)):List Nat:=xs.flatMap (·.flatMap D.marks)
theorem rowMarks_rd {A:Nat→Prop} {w:World} {k:Nat} {ds:List Value} {xs:List (List D)} (h:rdR k A w ds xs):∀ b ∈ rowMarks xs,A b:=by
 intro b hb
 obtain ⟨x,hx,hb⟩:=List.mem_flatMap.1 hb
 obtain ⟨d,hd,hb⟩:=List.mem_flatMap.1 hb
 obtain ⟨i,hi,rfl⟩:=List.getElem_of_mem hx
 obtain ⟨c,h1,_⟩:=h.get i hi
 obtain ⟨j,hj,rfl⟩:=List.getElem_of_mem hd
 obtain ⟨v,_,h2⟩:=h1.get j hj
 cases e:(xs[i])[j] with
 | tag F x =>
  rw [e] at h2 hb
  exact (rdV_tag.1 h2).1 b hb
 | _ => rw [e] at hb;cases hb
section
variable {P:Program} {cfg:Cfg} {M:Nat→Prop} {ops:Array Oper} {s:St} {w0:W0} {w:World} {Ok:Nat→Prop} {N:Nat} {σ:Asg} {a:Act} {fs:List Fr} {Q:Exit→St→Prop}
theorem Runs.fresh {c:Code} (hd:s.heap.all (fun p => !p.2.deep) = true)
  (h:∀ M':Nat→Prop,(∀ b,M' b→M b)→(∀ key k xs,look key s.heap = some (.row k xs false)→∀ b ∈ rowMarks xs,¬ M' b)→Runs P cfg M' c Q s):Runs P cfg M c Q s:=by
 intro w0 Ok σ a w Q' hM hS hQ
 have hdeep:∀ q o,look q s.heap = some o→o.deep = false:=fun q o hq => by
  have:=List.all_eq_true.1 hd _ (look_all hq)
  simpa using this
 let w1:W0:=⟨w,fun b => ∃ q o,look q s.heap = some o∧b ∈ fp σ q o⟩
 have hmine:∀ b,w1.mine b→w0.mine b:=by
  rintro b (hb|⟨q,o,hq,hb⟩)
  ·exact .inl (Nat.le_trans hS.below.size hb)
  ·exact (hS.rows q o hq).fresh b hb
 have hS1:Sim w1 σ.ok cfg.N σ s a w:=⟨⟨rfl,rfl,rfl,Nat.le_refl _,fun _ _ _ => rfl⟩,fun b hb => hS.ok1 b (hmine b hb),fun b hb => .inl hb,hS.defers,hS.size,hS.regs,
  fun key o hk => ⟨(hS.rows key o hk).row,fun b hb => .inr ⟨key,o,hk,hb⟩,(hS.rows key o hk).nodup⟩,hS.disj⟩
 refine h w1.mine (fun b hb => hM ▸ hmine b hb) ?_ w1 σ.ok σ a w Q' rfl hS1 (fun e s' hq σ' a' w' hS' => ?_)
 ·intro key k xs hk b hb hm
  obtain ⟨ds,_,_,hel⟩:=(hS.rows key _ hk).row
  have hel:rdR k (Zn σ s.heap w) w ds xs:=hel
  have hz:=rowMarks_rd hel b hb
  rcases hm with hm|⟨q,o,hq,hm⟩
  ·have hm:w.heap.size ≤ b:=hm
   have:=hz.1;omega
  ·unfold fp at hm
   rw [hdeep q o hq] at hm
   exact hz.2.2 q o hq (by simpa using hm)
 ·let σ2:Asg:=⟨σ'.g,σ'.cap,σ'.F,fun b => σ'.ok b ∨ w0.mine b⟩
  have hZ:Kept σ' σ2 s'.heap s'.heap w' w':=fun b hb => ⟨⟨hb.1,.inl hb.2.1,hb.2.2⟩,rfl⟩
  have hst:∀ k,Stays σ' σ2 s'.heap s'.heap k:=fun k o' ho' => ⟨o',ho',rfl,rfl,rfl,rfl⟩
  refine hQ e s' hq σ2 a' w' ⟨hS.below.trans2 hS'.below (fun b hb => hmine b (.inr hb)),fun b hb => .inr hb,?_,hS'.defers,hS'.size,fun r av hr => (hS'.regs r av hr).step hZ (fun k _ => hst k),fun key o hk => ?_,hS'.disj⟩
  ·rintro b (hb|hb)
   ·rcases hS'.ok2 b hb with h1|h1
    ·exact hS.ok2 b h1
    ·exact .inr (hmine b h1)
   ·exact .inr hb
  ·have hr:=RowOK.keep (σ':=σ2) hS'.ok1 hS'.rows hS'.disj hk hZ (fun k _ => hst k) rfl rfl rfl (fun _ _ => rfl)
   exact ⟨hr.row,fun b hb => hmine b (hr.fresh b hb),hr.nodup⟩
theorem RunK.fresh {c:Code} (hd:s.heap.all (fun p => !p.2.deep) = true)
  (h:∀ M':Nat→Prop,(∀ b,M' b→M b)→(∀ key k xs,look key s.heap = some (.row k xs false)→∀ b ∈ rowMarks xs,¬ M' b)→RunK P cfg M' c [] Q s):RunK P cfg M c [] Q s :=
 Runs.fresh hd h
end
end Go.Proofs.Ytofpjonggpjneaa
namespace Go.Proofs.Ytofpjonggpjneaa
open Go.RowKit
def eS0 (s:Spl):List D:=[.sl 1 (s.1.map eL),.sl 1 (s.2.map eL),.int 0]
end Go.Proofs.Ytofpjonggpjneaa
namespace Go.Proofs.Ytofpjonggpjneaa
open Go.RowKit
set_option maxRecDepth 100000 in
set_option maxHeartbeats 400000 in
theorem c_slicesGrowL (n:Nat) (w:World) (hn:n ≤ 1000000000):Calls Try.prog 177 #[.slice none 0 0,.int .i64 n] w (RetO (RS (RS RI)) w []):=by
 by_cases h0:n = 0
 ·subst h0
  go_enter Try.func177,Try.ntmps177
  go_wp2_with fail
  go_ret
  exact ⟨_,rfl,Own.nil _ _,Below.refl _ _⟩
 ·obtain ⟨ht,⟨i,hi,hz,hsz,hby⟩,_,_⟩:=tI64S
  have hr:=Lib.run_append_nil_zeros (P:=Try.prog) w 30 3 30 24 i (.slice none 0 0) .i64 .i64 ht Try.underlying3 hi hz n (by omega) (by omega) (by omega) (by rw [hby];omega)
  have hge:=grownCap_ge w n 0 24
  have hcm:grownCap w n 0 24 ≤ maxLen:=grownCap_le_maxLen w n 0 24 (by unfold maxLen;omega)
  obtain ⟨cp,hcp⟩:∃ cp,cp = grownCap w n 0 24:=⟨_,rfl⟩
  rw [← hcp] at hr hge hcm
  obtain ⟨cur,hcur⟩:∃ cur,cur = Builtin.zeroCells (Value.slice none 0 0).cells n ++ Builtin.zeroCells (Value.slice none 0 0).cells (cp - n):=⟨_,rfl⟩
  have hcs:cur.size = cp * 1:=by
   rw [hcur,Array.size_append,size_zeroCells,size_zeroCells]
   show n * 1 + (cp - n) * 1 = cp * 1
   omega
  rw [← hcur] at hr
  have hrow:Row (w.drew.alloc (.cells cur 24)) (.slice (some ⟨w.heap.size,0,none⟩) 0 cp) 1 0 [] (some w.heap.size) :=
   ⟨rfl,.inr ⟨w.heap.size,cp,cur,24,rfl,rfl,Go.heap_alloc_new w.drew _,Nat.zero_le _,hcm,hcs,by simp⟩⟩
  have hown:Own (RS (RS RI)) w.heap.size (w.drew.alloc (.cells cur 24)).heap.size (w.drew.alloc (.cells cur 24)) [.slice (some ⟨w.heap.size,0,none⟩) 0 cp] [] :=
   Own.mk' (og:=some w.heap.size) (F:=[]) (ds:=[]) hrow ⟨rfl,rfl⟩ (by simp) (fun b hb => by simp at hb;subst hb;simp)
  have hbel:Below w.heap.size w (w.drew.alloc (.cells cur 24)):=⟨rfl,rfl,rfl,by simp,fun k hk => Below.heap_alloc w.drew _ k hk⟩
  have HR:=Lib.hid hr
  have HO:=Lib.hid hown
  have hp:(0:Int) < (n:Int):=by omega
  have hp2:¬ ((n:Int) < 0):=by omega
  unfold maxLen at hcm
  clear hr hown hrow hcp hcur hi hz hsz hby ht hcs
  go_enter Try.func177,Try.ntmps177
  go_wp2_with (at_builtin;refine StopAt (o:=⟨some 22,_,_,_,_,_⟩) ?_)
  refine Stop.go ?_
  refine Lib.wpList_append_run w rfl _ _ _ _ rfl _ _ rfl rfl _ _ HR.out ?_
  go_wp2_with fail
  go_ret
  exact ⟨_,rfl,HO.out,hbel⟩
theorem a_slicesGrowL (n:Nat) (hn:n ≤ 1000000000):AFn Try.prog 177 [[.raw (.slice none 0 0)],eI n] (· = [.own 1 [] true]) :=
 AFn.of_o (xs:=[]) (encS encI) (enters_of Try.func177 rfl rfl) (fun w A vs ⟨v1,_,e1,h1,v2,_,e2,h2,e3⟩ => by
  subst e3;subst e2;subst e1
  rw [arg_int h2,(rdV_raw.1 h1).1]
  exact c_slicesGrowL n w hn)
def eLLL' (x:List (List Int)):List D:=[.sl 1 (x.map eL)]
def cntL (bs:List (List (List Int))):Nat:=(bs.map List.length).sum
theorem cntL_take_succ (bs:List (List (List Int))) (k:Nat) (h:k < bs.length):cntL (bs.take (k + 1)) = cntL (bs.take k) + bs[k].length:=by
 unfold cntL
 rw [List.take_succ_eq_append_getElem h,List.map_append,List.sum_append];simp
theorem cntL_flat (bs:List (List (List Int))):bs.flatten.length = cntL bs:=by simp [cntL,List.length_flatten]
theorem cntL_take (bs:List (List (List Int))) (k:Nat):cntL (bs.take k) ≤ cntL bs:=by
 rw [← cntL_flat,← cntL_flat]
 conv => rhs;rw [← List.take_append_drop k bs]
 rw [List.flatten_append,List.length_append]
 omega
set_option maxHeartbeats 4000000 in
theorem a_slicesConcatL (bs:List (List (List Int))) (hsz:cntL bs ≤ 1000000) (hl:bs.length ≤ 1000000):AFn Try.prog 135 [[.sl 1 (bs.map eLLL')]] (· = [.own 1 (bs.flatten.map eL) false]):=by
 refine AFn.of_runs (cfg_ok 36) Try.func135 rfl rfl rfl (by simp only [List.length_cons,List.length_nil];decide) ?_
 have hres:Try.f135.results.toList = [.tmp 2]:=rfl
 have hrts:Try.f135.resultTypes.toList = [30]:=rfl
 simp only [argRegs,argAV1,eL,eI,eLL,eB,Nat.zero_add,Nat.reduceAdd]
 intro M
 refine RunK.of ?_
 repeat' (first|with_reducible (first|refine Q1 ?_|refine Q2 ?_|refine Q3 ?_|refine Q4 ?_|refine Q5 ?_|refine Q6 ?_|refine Q7 ?_|refine Q8 ?_|refine Q9 ?_|refine Qa ?_|refine Qb ?_|refine Qc ?_|refine Qd ?_|refine Qe ?_|refine Qf ?_)|((with_reducible refine Qo ?_ ?_);focus rfl)|((with_reducible first|refine QT 28 (l:=?_) ?_ ?_|refine QF 28 (l:=?_) ?_ ?_);rotate_left 1;focus (simp only [Zu,Nat.reduceSub,Nat.reduceBEq];with_reducible rfl))|((with_reducible first|refine QS (cfg_ok 36) Tab.none (s':=?_) ?_ ?_|refine QC (b:=?_) ?_ ?_);rotate_left 1;focus ((with_reducible refine QW ?_);simp only [Zg,seval,if_true,if_false,reduceCtorEq,Nat.reduceEqDiff,List.length_map];with_reducible rfl)))
 refine RunK.loop (β:=Nat) (γ:=Unit) (fun i => ⟨[(0,.c (.val (.sl 1 (bs.map eLLL')))),(3,.c (.val (.int (cntL (bs.take i):Nat)))),(9,.c (.val (.sl 1 (bs.map eLLL')))),(10,.c (.val (.int bs.length))),(11,.c (.val (.int i)))],[]⟩) (fun i => i ≤ bs.length) (fun i => bs.length - i)
  (fun _ => ⟨[(0,.c (.val (.sl 1 (bs.map eLLL')))),(3,.c (.val (.int (cntL bs:Nat))))],[]⟩) (fun _ => True) 0 (Nat.zero_le _) ?_ ?_ ?_
 ·(repeat' (first|with_reducible refine Qn|((with_reducible refine Qr ?_ ?_);focus (first|with_reducible rfl|(simp only [Zz,Nat.reduceBEq,List.take_zero,show cntL [] = 0 from rfl,List.length_map];done)|rfl))|((with_reducible refine Qj (o':=?_) ?_ ?_ ?_);rotate_left 1;focus rfl)|((with_reducible refine Qw ?_ ?_);(focus (first|with_reducible rfl|(simp only [Zv,List.take_zero,show cntL [] = 0 from rfl,List.length_map];done)));focus (first|exact id|exact (fun h => nomatch h)|exact (fun _ => rfl)))))
 ·intro i hi
  have hi:i ≤ bs.length:=hi
  have hw:=w64_succ (n:=i) (by omega)
  by_cases h:i < bs.length
  ·have i1:((i:Int) < (bs.length:Int)) = True:=eq_true (by omega)
   have i2:((0:Int) ≤ (i:Int)) = True:=eq_true (by omega)
   obtain ⟨f,hf⟩:∃ f,f = bs[i]:=⟨_,rfl⟩
   have hg:(bs.map eLLL')[i]? = some [.sl 1 (f.map eL)]:=by rw [map_get h,hf];rfl
   have hst:=cntL_take_succ bs i h
   have hle:=cntL_take bs (i + 1)
   rw [← hf] at hst
   have hws:w64 ((cntL (bs.take i):Int) + (f.length:Int)) = ((cntL (bs.take (i + 1)):Nat):Int):=by rw [w64_eq (by omega)];omega
   have j1:(((cntL (bs.take (i + 1)):Nat):Int) < 0) = False:=eq_false (by omega)
   repeat' (first|with_reducible (first|refine Q1 ?_|refine Q2 ?_|refine Q3 ?_|refine Q4 ?_|refine Q5 ?_|refine Q6 ?_|refine Q7 ?_|refine Q8 ?_|refine Q9 ?_|refine Qa ?_|refine Qb ?_|refine Qc ?_|refine Qd ?_|refine Qe ?_|refine Qf ?_)|((with_reducible refine Qo ?_ ?_);focus rfl)|((with_reducible first|refine QT 28 (l:=?_) ?_ ?_|refine QF 28 (l:=?_) ?_ ?_);rotate_left 1;focus (simp only [Zu,Nat.reduceSub,Nat.reduceBEq];with_reducible rfl))|((with_reducible first|refine QS (cfg_ok 36) Tab.none (s':=?_) ?_ ?_|refine QC (b:=?_) ?_ ?_);rotate_left 1;focus ((with_reducible refine QW ?_);simp only [Zg,seval,if_true,if_false,reduceCtorEq,Nat.reduceEqDiff,i1,i2,hg,hw,hws,j1,Int.toNat_natCast,List.length_map];with_reducible rfl)))
   refine roundK.on (i + 1) ⟨h,by omega⟩ ?_
   (repeat' (first|with_reducible refine Qn|((with_reducible refine Qr ?_ ?_);focus (first|with_reducible rfl|(simp only [Zz,Nat.reduceBEq];done)|rfl))|((with_reducible refine Qj (o':=?_) ?_ ?_ ?_);rotate_left 1;focus rfl)|((with_reducible refine Qw ?_ ?_);(focus (first|with_reducible rfl|(simp only [Zv];done)));focus (first|exact id|exact (fun h => nomatch h)|exact (fun _ => rfl)))))
  ·have i1:((i:Int) < (bs.length:Int)) = False:=eq_false (by omega)
   obtain rfl:i = bs.length:=by omega
   rw [List.take_length]
   repeat' (first|with_reducible (first|refine Q1 ?_|refine Q2 ?_|refine Q3 ?_|refine Q4 ?_|refine Q5 ?_|refine Q6 ?_|refine Q7 ?_|refine Q8 ?_|refine Q9 ?_|refine Qa ?_|refine Qb ?_|refine Qc ?_|refine Qd ?_|refine Qe ?_|refine Qf ?_)|((with_reducible refine Qo ?_ ?_);focus rfl)|((with_reducible first|refine QT 28 (l:=?_) ?_ ?_|refine QF 28 (l:=?_) ?_ ?_);rotate_left 1;focus (simp only [Zu,Nat.reduceSub,Nat.reduceBEq];with_reducible rfl))|((with_reducible first|refine QS (cfg_ok 36) Tab.none (s':=?_) ?_ ?_|refine QC (b:=?_) ?_ ?_);rotate_left 1;focus ((with_reducible refine QW ?_);simp only [Zg,seval,if_true,if_false,reduceCtorEq,Nat.reduceEqDiff,i1];with_reducible rfl)))
   refine roundK.out () trivial ?_
   (repeat' (first|with_reducible refine Qn|((with_reducible refine Qr ?_ ?_);focus (first|with_reducible rfl|(simp only [Zz,Nat.reduceBEq];done)|rfl))|((with_reducible refine Qj (o':=?_) ?_ ?_ ?_);rotate_left 1;focus rfl)|((with_reducible refine Qw ?_ ?_);(focus (first|with_reducible rfl|(simp only [Zv];done)));focus (first|exact id|exact (fun h => nomatch h)|exact (fun _ => rfl)))))
 ·rintro _ _
  have hgr:=a_slicesGrowL (cntL bs) (by omega)
  repeat' (first|with_reducible (first|refine Q1 ?_|refine Q2 ?_|refine Q3 ?_|refine Q4 ?_|refine Q5 ?_|refine Q6 ?_|refine Q7 ?_|refine Q8 ?_|refine Q9 ?_|refine Qa ?_|refine Qb ?_|refine Qc ?_|refine Qd ?_|refine Qe ?_|refine Qf ?_)|((with_reducible refine Qo ?_ ?_);focus rfl)|((with_reducible first|refine QT 28 (l:=?_) ?_ ?_|refine QF 28 (l:=?_) ?_ ?_);rotate_left 1;focus (simp only [Zu,Nat.reduceSub,Nat.reduceBEq];with_reducible rfl))|((with_reducible first|refine QS (cfg_ok 36) Tab.none (s':=?_) ?_ ?_|refine QC (b:=?_) ?_ ?_);rotate_left 1;focus ((with_reducible refine QW ?_);simp only [Zg,seval,if_true,if_false,reduceCtorEq,Nat.reduceEqDiff,List.length_map];with_reducible rfl)))
  refine RunK.regCut (cfg_ok 36) Tab.none 1 (s1:=?_) ?_ ?_
  rotate_left 1
  focus (refine Work.mk ?_;simp only [Zg,seval,if_true,if_false,reduceCtorEq,Nat.reduceEqDiff];with_reducible rfl)
  simp only [List.toList_toArray,List.drop_succ_cons,List.drop_zero]
  refine ROps.callNilP (cfg_ok 36) (d:=24) (g:=177) (xs:=[]) (tx:=[]) (pre:=[]) (ys:=[.tmp 23]) (ty:=[3]) (post:=[eI (cntL bs:Nat)]) rfl (by decide) rfl rfl rfl rfl rfl rfl rfl rfl hgr rfl ?_
  refine ROps.opsT (cfg_ok 36) (T:=Tab.none) (s':=?_) ?_ ?_
  rotate_left 1
  focus (simp only [Zg,seval,if_true,if_false,reduceCtorEq,Nat.reduceEqDiff];with_reducible rfl)
  repeat' (first|with_reducible (first|refine Q1 ?_|refine Q2 ?_|refine Q3 ?_|refine Q4 ?_|refine Q5 ?_|refine Q6 ?_|refine Q7 ?_|refine Q8 ?_|refine Q9 ?_|refine Qa ?_|refine Qb ?_|refine Qc ?_|refine Qd ?_|refine Qe ?_|refine Qf ?_)|((with_reducible refine Qo ?_ ?_);focus rfl)|((with_reducible first|refine QT 28 (l:=?_) ?_ ?_|refine QF 28 (l:=?_) ?_ ?_);rotate_left 1;focus (simp only [Zu,Nat.reduceSub,Nat.reduceBEq];with_reducible rfl))|((with_reducible first|refine QS (cfg_ok 36) Tab.none (s':=?_) ?_ ?_|refine QC (b:=?_) ?_ ?_);rotate_left 1;focus ((with_reducible refine QW ?_);simp only [Zg,seval,if_true,if_false,reduceCtorEq,Nat.reduceEqDiff,List.length_map];with_reducible rfl)))
  refine RunK.loop (β:=Nat) (γ:=Unit) (fun i => ⟨[(6,.c (.own 6 (bs.take i).flatten.length)),(25,.c (.val (.sl 1 (bs.map eLLL')))),(26,.c (.val (.int bs.length))),(27,.c (.val (.int i)))],[(6,.row 1 ((bs.take i).flatten.map eL) false)]⟩) (fun i => i ≤ bs.length) (fun i => bs.length - i)
   (fun _ => ⟨[(6,.c (.own 6 bs.flatten.length))],[(6,.row 1 (bs.flatten.map eL) false)]⟩) (fun _ => True) 0 (Nat.zero_le _) ?_ ?_ ?_
  ·(repeat' (first|with_reducible refine Qn|((with_reducible refine Qr ?_ ?_);focus (first|with_reducible rfl|(simp only [Zz,Nat.reduceBEq,List.take_zero,List.flatten_nil,List.map_nil,List.length_map];done)|rfl))|((with_reducible refine Qj (o':=?_) ?_ ?_ ?_);rotate_left 1;focus rfl)|((with_reducible refine Qw ?_ ?_);(focus (first|with_reducible rfl|(simp only [Zv,List.take_zero,List.flatten_nil,List.map_nil,List.length_map];done)));focus (first|exact id|exact (fun h => nomatch h)|exact (fun _ => rfl)))))
  ·intro i hi
   have hi:i ≤ bs.length:=hi
   have hw:=w64_succ (n:=i) (by omega)
   by_cases h:i < bs.length
   ·have i1:((i:Int) < (bs.length:Int)) = True:=eq_true (by omega)
    have i2:((0:Int) ≤ (i:Int)) = True:=eq_true (by omega)
    obtain ⟨f,hf⟩:∃ f,f = bs[i]:=⟨_,rfl⟩
    have hg:(bs.map eLLL')[i]? = some [.sl 1 (f.map eL)]:=by rw [map_get h,hf];rfl
    have hst:=cntL_take_succ bs i h
    have hle:=cntL_take bs (i + 1)
    rw [← hf] at hst
    have hfl:(bs.take (i + 1)).flatten = (bs.take i).flatten ++ f:=by rw [List.take_succ_eq_append_getElem h,List.flatten_append,hf];simp
    have hcl:=cntL_flat (bs.take i)
    have q1:=big_le (n:=(bs.take i).flatten.length + f.length) (by omega)
    have q2:=big_mul (n:=(bs.take i).flatten.length + f.length) (c:=24) (by omega) (by omega)
    repeat' (first|with_reducible (first|refine Q1 ?_|refine Q2 ?_|refine Q3 ?_|refine Q4 ?_|refine Q5 ?_|refine Q6 ?_|refine Q7 ?_|refine Q8 ?_|refine Q9 ?_|refine Qa ?_|refine Qb ?_|refine Qc ?_|refine Qd ?_|refine Qe ?_|refine Qf ?_)|((with_reducible refine Qo ?_ ?_);focus rfl)|((with_reducible first|refine QT 28 (l:=?_) ?_ ?_|refine QF 28 (l:=?_) ?_ ?_);rotate_left 1;focus (simp only [Zu,Nat.reduceSub,Nat.reduceBEq];with_reducible rfl))|((with_reducible first|refine QS (cfg_ok 36) Tab.none (s':=?_) ?_ ?_|refine QC (b:=?_) ?_ ?_);rotate_left 1;focus ((with_reducible refine QW ?_);simp only [Zg,seval,if_true,if_false,reduceCtorEq,Nat.reduceEqDiff,i1,i2,hg,hw,q1,q2,Int.toNat_natCast,List.length_map];with_reducible rfl)))
    refine roundK.on (i + 1) ⟨h,by omega⟩ ?_
    rw [hfl]
    (repeat' (first|with_reducible refine Qn|((with_reducible refine Qr ?_ ?_);focus (first|with_reducible rfl|(simp only [Zz,Nat.reduceBEq];done)|rfl))|((with_reducible refine Qj (o':=?_) ?_ ?_ ?_);rotate_left 1;focus rfl)|((with_reducible refine Qw ?_ ?_);(focus (first|with_reducible rfl|(simp only [Zv];done)));focus (first|exact id|exact (fun h => nomatch h)|exact (fun _ => rfl)))))
   ·have i1:((i:Int) < (bs.length:Int)) = False:=eq_false (by omega)
    obtain rfl:i = bs.length:=by omega
    rw [List.take_length]
    repeat' (first|with_reducible (first|refine Q1 ?_|refine Q2 ?_|refine Q3 ?_|refine Q4 ?_|refine Q5 ?_|refine Q6 ?_|refine Q7 ?_|refine Q8 ?_|refine Q9 ?_|refine Qa ?_|refine Qb ?_|refine Qc ?_|refine Qd ?_|refine Qe ?_|refine Qf ?_)|((with_reducible refine Qo ?_ ?_);focus rfl)|((with_reducible first|refine QT 28 (l:=?_) ?_ ?_|refine QF 28 (l:=?_) ?_ ?_);rotate_left 1;focus (simp only [Zu,Nat.reduceSub,Nat.reduceBEq];with_reducible rfl))|((with_reducible first|refine QS (cfg_ok 36) Tab.none (s':=?_) ?_ ?_|refine QC (b:=?_) ?_ ?_);rotate_left 1;focus ((with_reducible refine QW ?_);simp only [Zg,seval,if_true,if_false,reduceCtorEq,Nat.reduceEqDiff,i1];with_reducible rfl)))
    refine roundK.out () trivial ?_
    (repeat' (first|with_reducible refine Qn|((with_reducible refine Qr ?_ ?_);focus (first|with_reducible rfl|(simp only [Zz,Nat.reduceBEq];done)|rfl))|((with_reducible refine Qj (o':=?_) ?_ ?_ ?_);rotate_left 1;focus rfl)|((with_reducible refine Qw ?_ ?_);(focus (first|with_reducible rfl|(simp only [Zv];done)));focus (first|exact id|exact (fun h => nomatch h)|exact (fun _ => rfl)))))
  ·rintro _ _
   repeat' (first|with_reducible (first|refine Q1 ?_|refine Q2 ?_|refine Q3 ?_|refine Q4 ?_|refine Q5 ?_|refine Q6 ?_|refine Q7 ?_|refine Q8 ?_|refine Q9 ?_|refine Qa ?_|refine Qb ?_|refine Qc ?_|refine Qd ?_|refine Qe ?_|refine Qf ?_)|((with_reducible refine Qo ?_ ?_);focus rfl)|((with_reducible first|refine QT 28 (l:=?_) ?_ ?_|refine QF 28 (l:=?_) ?_ ?_);rotate_left 1;focus (simp only [Zu,Nat.reduceSub,Nat.reduceBEq];with_reducible rfl))|((with_reducible first|refine QS (cfg_ok 36) Tab.none (s':=?_) ?_ ?_|refine QC (b:=?_) ?_ ?_);rotate_left 1;focus ((with_reducible refine QW ?_);simp only [Zg,seval,if_true,if_false,reduceCtorEq,Nat.reduceEqDiff];with_reducible rfl)))
   (refine Ends.mk (by simp) (rs:=?_) (ks:=?_) hres hrts ?_ ?_ ?_;rotate_left 2;(focus (simp only [Ze,Zg,seval,if_true,if_false,reduceCtorEq,Nat.reduceEqDiff];with_reducible rfl));(focus simp);focus (first|with_reducible rfl|(simp only [Zv];done)))
end Go.Proofs.Ytofpjonggpjneaa
namespace Go.Proofs.Ytofpjonggpjneaa
open Go.RowKit
def codLLL:Cod (List (List (List Int))):=codS 1 codLL
theorem codLLL_d (f g:List (List Int)):codLLL.d [.sl 1 [[.sl 1 (f.map eL)],[.sl 1 (g.map eL)]]] = some [f,g]:=codLLL.de [f,g]
def cat2:List (List (List Int))→Option (List Res)
 | [f,g] => if SmF f∧SmF g then some [.val (.sl 1 ((f ++ g).map eL))] else none
 | _ => none
theorem cat2_eq (f g:List (List Int)):cat2 [f,g] = if SmF f∧SmF g then some [.val (.sl 1 ((f ++ g).map eL))] else none:=rfl
noncomputable def TCat:Tab Try.prog :=
 Tab.none.add 135 (tab1 codLLL cat2) (tab1_ok fun bs rs h => by
  unfold cat2 at h
  split at h
  ·rename_i f g
   split at h
   ·rename_i hs
    cases h
    have hc:=AFn.val1 (a_slicesConcatL [f,g] (by simp [cntL];have:=hs.1.1;have:=hs.2.1;omega) (by simp))
    simp only [List.flatten_cons,List.flatten_nil,List.append_nil] at hc
    exact hc
   ·cases h
  ·cases h)
theorem a_branchesOf (t:List Int) (h:LevP t) (hl:t.length ≤ 1000):AFn Try.prog 127 [eL t] (· = [.own 1 ((brs t).map eL) true]) :=
 afn_L_oo (enters_of Try.func127 rfl rfl) (fun u w h' => c_impl_branchesOf u t w h' h (by omega))
theorem foldS_snoc (A:List Spl) (Ls:List (List Spl)) (L:List Spl):foldS A (Ls ++ [L]) = (foldS A Ls).flatMap fun s => L.map (catS s):=by unfold foldS;rw [List.foldl_append];rfl
theorem flatS_len (A L:List Spl):(A.flatMap fun s => L.map (catS s)).length = A.length * L.length:=by
 induction A with
 | nil => simp
 | cons a A ih => rw [List.flatMap_cons,List.length_append,ih,List.length_map,List.length_cons,Nat.succ_mul,Nat.add_comm]
set_option maxRecDepth 20000 in
set_option maxHeartbeats 8000000 in
theorem a_splitTree:∀ (n:Nat),n ≤ 8→∀ t:List Int,LevP t→t.length ≤ n→AFn Try.prog 151 [eL t] (· = [.own 3 ((split t).map eS0) false])
 | 0,_,t,h,hn => by have:=h.pos;omega
 | n + 1,hn8,t,h,hn => by
  have hsb:=sumLen_brs h
  have hlev:=brs_lev h
  have hbr:=AFn.valT (a_branchesOf t h (by omega))
  have hbl:(brs t).length ≤ 8:=by have:=brs_few h;omega
  have hca:=AFn.valT (a_canonical13 t h (by omega))
  simp only [eL,eLL] at hbr hca
  have hAg:∀ k,(∀ s ∈ prodS (((brs t).take k).map split),GoodS (sumLen ((brs t).take k)) s)∧(prodS (((brs t).take k).map split)).length ≤ 256∧sumLen ((brs t).take k) ≤ 7:=fun k => by
   have h1:=sumLen_take' (brs t) k
   exact ⟨prod_good (mem_take hlev),prod_len (mem_take hlev) (by omega),by omega⟩
  rw [split_eq h]
  refine AFn.of_runs (cfg_ok 80) Try.func151 rfl rfl rfl (by simp only [List.length_cons,List.length_nil];decide) ?_
  have hres:Try.f151.results.toList = [.tmp 2]:=rfl
  have hrts:Try.f151.resultTypes.toList = [131]:=rfl
  simp only [argRegs,argAV1,eL,eI,eLL,eB,Nat.zero_add,Nat.reduceAdd]
  intro M
  refine RunK.of ?_
  repeat' (first|with_reducible (first|refine Q1 ?_|refine Q2 ?_|refine Q3 ?_|refine Q4 ?_|refine Q5 ?_|refine Q6 ?_|refine Q7 ?_|refine Q8 ?_|refine Q9 ?_|refine Qa ?_|refine Qb ?_|refine Qc ?_|refine Qd ?_|refine Qe ?_|refine Qf ?_)|((with_reducible refine Qo ?_ ?_);focus rfl)|((with_reducible first|refine QT 59 (l:=?_) ?_ ?_|refine QF 59 (l:=?_) ?_ ?_);rotate_left 1;focus (simp only [Zu,Nat.reduceSub,Nat.reduceBEq];with_reducible rfl))|((with_reducible first|refine QS (cfg_ok 80) (Tab.none.at' 127 hbr) (s':=?_) ?_ ?_|refine QC (b:=?_) ?_ ?_);rotate_left 1;focus ((with_reducible refine QW ?_);simp only [Zg,seval,if_true,if_false,reduceCtorEq,Nat.reduceEqDiff,List.length_map];with_reducible rfl))|((with_reducible refine QD (cfg_ok 80) (Tab.none.at' 127 hbr) mixed_ok (tr:=?_) (s':=?_) ?_ ?_ ?_);rotate_left 2;(focus ((with_reducible refine QW ?_);simp only [Zg,Zd,seval,if_true,if_false,reduceCtorEq,Nat.reduceEqDiff,List.length_map];with_reducible rfl));focus ((with_reducible refine QK ?_);simp only [Zk];kernel_rfl)))
  refine RunK.loop (β:=Nat) (γ:=Unit) (fun k => ⟨[(0,.c (.val (.sl 1 (t.map eI)))),(3,.c (.own 3 (prodS (((brs t).take k).map split)).length)),(16,.c (.val (.sl 1 ((brs t).map eL)))),(17,.c (.val (.int (brs t).length))),(18,.c (.val (.int k)))],[(3,.row 3 ((prodS (((brs t).take k).map split)).map eS0) false)]⟩) (fun k => k ≤ (brs t).length) (fun k => (brs t).length - k)
   (fun _ => ⟨[(0,.c (.val (.sl 1 (t.map eI)))),(3,.c (.own 3 (prodS ((brs t).map split)).length))],[(3,.row 3 ((prodS ((brs t).map split)).map eS0) false)]⟩) (fun _ => True) 0 (Nat.zero_le _) ?_ ?_ ?_
  ·(repeat' (first|with_reducible refine Qn|((with_reducible refine Qr ?_ ?_);focus (first|with_reducible rfl|(simp only [Zz,Nat.reduceBEq,List.take_zero,List.map_nil,show prodS [] = [([],[])] from rfl,List.map_cons,eS0,List.length_singleton,Int.natCast_zero];done)|rfl))|((with_reducible refine Qj (o':=?_) ?_ ?_ ?_);rotate_left 1;focus rfl)|((with_reducible refine Qw ?_ ?_);(focus (first|with_reducible rfl|(simp only [Zv,List.take_zero,List.map_nil,show prodS [] = [([],[])] from rfl,List.map_cons,eS0,List.length_singleton,Int.natCast_zero];done)));focus (first|exact id|exact (fun h => nomatch h)|exact (fun _ => rfl)))))
  ·intro k hk
   have hk:k ≤ (brs t).length:=hk
   have hwk:=w64_succ (n:=k) (by omega)
   obtain ⟨g1,g2,g3⟩:=hAg k
   by_cases hkb:k < (brs t).length
   ·have i1:((k:Int) < ((brs t).length:Int)) = True:=eq_true (by omega)
    have i2:((0:Int) ≤ (k:Int)) = True:=eq_true (by omega)
    obtain ⟨b,hb⟩:∃ b,b = (brs t)[k]:=⟨_,rfl⟩
    have hbm:b ∈ brs t:=by rw [hb];exact List.getElem_mem _
    have hg:((brs t).map eL)[k]? = some [.sl 1 (b.map eI)]:=by rw [map_get hkb,hb];rfl
    have hle:((brs t).map eL).length = (brs t).length:=List.length_map _
    have hblen:=brs_short h b hbm
    have hih:=AFn.val1 (a_splitTree n (by omega) b (hlev b hbm) (by omega))
    have hgB:=split_good _ (Nat.le_refl _) (hlev b hbm)
    have hlB:(split b).length ≤ 256:=by
     have h1:=split_len _ (Nat.le_refl _) (hlev b hbm)
     have h2:2 ^ b.length ≤ 2 ^ 8:=Nat.pow_le_pow_right (by decide) (by omega)
     omega
    have htk:prodS (((brs t).take (k + 1)).map split) = (prodS (((brs t).take k).map split)).flatMap fun s => (split b).map (catS s):=by
     rw [hb,List.take_succ_eq_append_getElem hkb,List.map_append];exact foldS_snoc _ _ _
    have hn2:(prodS (((brs t).take (k + 1)).map split)).length ≤ 256:=(hAg (k + 1)).2.1
    obtain ⟨A,hA⟩:∃ A,A = prodS (((brs t).take k).map split):=⟨_,rfl⟩
    obtain ⟨B,hB⟩:∃ B,B = split b:=⟨_,rfl⟩
    rw [← hA] at g1 g2 htk ⊢
    rw [← hB] at hih hgB hlB htk
    rw [htk] at hn2
    simp only [eL] at hih
    have hsA:∀ s ∈ A,SmS s:=fun s hs => ((g1 s hs).ha (by omega)).sm
    have hsB:∀ s ∈ B,SmS s:=fun s hs => ((hgB s hs).ha (by omega)).sm
    have hAl:(A.map eS0).length = A.length:=List.length_map _
    repeat' (first|with_reducible (first|refine Q1 ?_|refine Q2 ?_|refine Q3 ?_|refine Q4 ?_|refine Q5 ?_|refine Q6 ?_|refine Q7 ?_|refine Q8 ?_|refine Q9 ?_|refine Qa ?_|refine Qb ?_|refine Qc ?_|refine Qd ?_|refine Qe ?_|refine Qf ?_)|((with_reducible refine Qo ?_ ?_);focus rfl)|((with_reducible first|refine QT 59 (l:=?_) ?_ ?_|refine QF 59 (l:=?_) ?_ ?_);rotate_left 1;focus (simp only [Zu,Nat.reduceSub,Nat.reduceBEq];with_reducible rfl))|((with_reducible first|refine QS (cfg_ok 80) Tab.none (s':=?_) ?_ ?_|refine QC (b:=?_) ?_ ?_);rotate_left 1;focus ((with_reducible refine QW ?_);simp only [Zg,seval,if_true,if_false,reduceCtorEq,Nat.reduceEqDiff,i1,i2,hg,hle,Int.toNat_natCast,List.length_map];with_reducible rfl))|((with_reducible refine QD (cfg_ok 80) Tab.none mixed_ok (tr:=?_) (s':=?_) ?_ ?_ ?_);rotate_left 2;(focus ((with_reducible refine QW ?_);simp only [Zg,Zd,seval,if_true,if_false,reduceCtorEq,Nat.reduceEqDiff,i1,i2,hg,hle,Int.toNat_natCast,List.length_map];with_reducible rfl));focus ((with_reducible refine QK ?_);simp only [Zk];kernel_rfl)))
    refine RunK.loop (β:=Nat) (γ:=Unit) (fun i => ⟨[(0,.c (.val (.sl 1 (t.map eI)))),(3,.c (.own 3 A.length)),(5,.c (.val (.sl 1 (b.map eI)))),(6,.c (.own 6 ((A.take i).flatMap fun s => B.map (catS s)).length)),(16,.c (.val (.sl 1 ((brs t).map eL)))),(17,.c (.val (.int (brs t).length))),(18,.c (.val (.int k))),(23,.c (.own 3 A.length)),(24,.c (.val (.int A.length))),(25,.c (.val (.int i)))],
      [(3,.row 3 (A.map eS0) false),(6,.row 3 (((A.take i).flatMap fun s => B.map (catS s)).map eS0) false)]⟩) (fun i => i ≤ A.length) (fun i => A.length - i)
     (fun _ => ⟨[(0,.c (.val (.sl 1 (t.map eI)))),(6,.c (.own 6 (A.flatMap fun s => B.map (catS s)).length)),(16,.c (.val (.sl 1 ((brs t).map eL)))),(17,.c (.val (.int (brs t).length))),(18,.c (.val (.int k)))],[(6,.row 3 ((A.flatMap fun s => B.map (catS s)).map eS0) false)]⟩) (fun _ => True) 0 (Nat.zero_le _) ?_ ?_ ?_
    ·(repeat' (first|with_reducible refine Qn|((with_reducible refine Qr ?_ ?_);focus (first|with_reducible rfl|(simp only [Zz,Nat.reduceBEq,List.take_zero,List.flatMap_nil,List.map_nil,List.length_nil,Int.natCast_zero];done)|rfl))|((with_reducible refine Qj (o':=?_) ?_ ?_ ?_);rotate_left 1;focus rfl)|((with_reducible refine Qw ?_ ?_);(focus (first|with_reducible rfl|(simp only [Zv,List.take_zero,List.flatMap_nil,List.map_nil,List.length_nil,Int.natCast_zero];done)));focus (first|exact id|exact (fun h => nomatch h)|exact (fun _ => rfl)))))
    ·intro i hi
     have hi:i ≤ A.length:=hi
     have hwi:=w64_succ (n:=i) (by omega)
     by_cases hiA:i < A.length
     ·have j1:((i:Int) < (A.length:Int)) = True:=eq_true (by omega)
      have j2:((0:Int) ≤ (i:Int)) = True:=eq_true (by omega)
      obtain ⟨s,hs⟩:∃ s,s = A[i]:=⟨_,rfl⟩
      have hsm:=hsA A[i] (List.getElem_mem _)
      have hgs:(A.map eS0)[i]? = some [.sl 1 (s.1.map eL),.sl 1 (s.2.map eL),.int 0]:=by rw [map_get hiA,hs];rfl
      have htkA:(A.take (i + 1)).flatMap (fun s => B.map (catS s)) = ((A.take i).flatMap fun s => B.map (catS s)) ++ B.map (catS s):=by
       rw [hs,List.take_succ_eq_append_getElem hiA,List.flatMap_append];simp
      have hXl:((A.take i).flatMap fun s => B.map (catS s)).length + B.length ≤ 256:=by
       rw [flatS_len] at hn2 ⊢
       rw [List.length_take,Nat.min_eq_left hi]
       have:(i + 1) * B.length ≤ A.length * B.length:=Nat.mul_le_mul_right _ hiA
       rw [Nat.succ_mul] at this;omega
      rw [← hs] at hsm
      obtain ⟨X,hX⟩:∃ X,X = (A.take i).flatMap fun s => B.map (catS s):=⟨_,rfl⟩
      rw [← hX] at htkA hXl ⊢
      have hBl:(B.map eS0).length = B.length:=List.length_map _
      repeat' (first|with_reducible (first|refine Q1 ?_|refine Q2 ?_|refine Q3 ?_|refine Q4 ?_|refine Q5 ?_|refine Q6 ?_|refine Q7 ?_|refine Q8 ?_|refine Q9 ?_|refine Qa ?_|refine Qb ?_|refine Qc ?_|refine Qd ?_|refine Qe ?_|refine Qf ?_)|((with_reducible refine Qo ?_ ?_);focus rfl)|((with_reducible first|refine QT 59 (l:=?_) ?_ ?_|refine QF 59 (l:=?_) ?_ ?_);rotate_left 1;focus (simp only [Zu,Nat.reduceSub,Nat.reduceBEq];with_reducible rfl))|((with_reducible first|refine QS (cfg_ok 80) (Tab.none.at' 151 hih) (s':=?_) ?_ ?_|refine QC (b:=?_) ?_ ?_);rotate_left 1;focus ((with_reducible refine QW ?_);simp only [Zg,seval,if_true,if_false,reduceCtorEq,Nat.reduceEqDiff,j1,j2,hgs,hAl,hBl,Int.toNat_natCast];with_reducible rfl))|((with_reducible refine QD (cfg_ok 80) (Tab.none.at' 151 hih) mixed_ok (tr:=?_) (s':=?_) ?_ ?_ ?_);rotate_left 2;(focus ((with_reducible refine QW ?_);simp only [Zg,Zd,seval,if_true,if_false,reduceCtorEq,Nat.reduceEqDiff,j1,j2,hgs,hAl,hBl,Int.toNat_natCast];with_reducible rfl));focus ((with_reducible refine QK ?_);simp only [Zk];kernel_rfl)))
      refine RunK.loop (β:=Nat) (γ:=Unit) (fun j => ⟨[(0,.c (.val (.sl 1 (t.map eI)))),(3,.c (.own 3 A.length)),(5,.c (.val (.sl 1 (b.map eI)))),(6,.c (.own 6 (X ++ (B.take j).map (catS s)).length)),(8,.optr 8 0 0),(16,.c (.val (.sl 1 ((brs t).map eL)))),(17,.c (.val (.int (brs t).length))),(18,.c (.val (.int k))),(23,.c (.own 3 A.length)),(24,.c (.val (.int A.length))),(25,.c (.val (.int i))),(30,.c (.val (.sl 3 (B.map eS0)))),(31,.c (.val (.int B.length))),(32,.c (.val (.int j)))],
        [(3,.row 3 (A.map eS0) false),(6,.row 3 ((X ++ (B.take j).map (catS s)).map eS0) false),(8,.row 3 [[.sl 1 (s.1.map eL),.sl 1 (s.2.map eL),.int 0]] false)]⟩) (fun j => j ≤ B.length) (fun j => B.length - j)
       (fun _ => ⟨[(0,.c (.val (.sl 1 (t.map eI)))),(3,.c (.own 3 A.length)),(5,.c (.val (.sl 1 (b.map eI)))),(6,.c (.own 6 (X ++ B.map (catS s)).length)),(16,.c (.val (.sl 1 ((brs t).map eL)))),(17,.c (.val (.int (brs t).length))),(18,.c (.val (.int k))),(23,.c (.own 3 A.length)),(24,.c (.val (.int A.length))),(25,.c (.val (.int i)))],
        [(3,.row 3 (A.map eS0) false),(6,.row 3 ((X ++ B.map (catS s)).map eS0) false)]⟩) (fun _ => True) 0 (Nat.zero_le _) ?_ ?_ ?_
      ·(repeat' (first|with_reducible refine Qn|((with_reducible refine Qr ?_ ?_);focus (first|with_reducible rfl|(simp only [Zz,Nat.reduceBEq,List.take_zero,List.map_nil,List.append_nil,Int.natCast_zero];done)|rfl))|((with_reducible refine Qj (o':=?_) ?_ ?_ ?_);rotate_left 1;focus rfl)|((with_reducible refine Qw ?_ ?_);(focus (first|with_reducible rfl|(simp only [Zv,List.take_zero,List.map_nil,List.append_nil,Int.natCast_zero];done)));focus (first|exact id|exact (fun h => nomatch h)|exact (fun _ => rfl)))))
      ·intro j hj
       have hj:j ≤ B.length:=hj
       have hwj:=w64_succ (n:=j) (by omega)
       by_cases hjB:j < B.length
       ·have l1:((j:Int) < (B.length:Int)) = True:=eq_true (by omega)
        have l2:((0:Int) ≤ (j:Int)) = True:=eq_true (by omega)
        obtain ⟨c,hc⟩:∃ c,c = B[j]:=⟨_,rfl⟩
        have hcm:=hsB B[j] (List.getElem_mem _)
        have hgc:(B.map eS0)[j]? = some [.sl 1 (c.1.map eL),.sl 1 (c.2.map eL),.int 0]:=by rw [map_get hjB,hc];rfl
        have htkB:X ++ (B.take (j + 1)).map (catS s) = (X ++ (B.take j).map (catS s)) ++ [catS s c]:=by
         rw [hc,List.take_succ_eq_append_getElem hjB,List.map_append,List.append_assoc];rfl
        rw [← hc] at hcm
        have hYl:(X ++ (B.take j).map (catS s)).length ≤ 256:=by rw [List.length_append,List.length_map,List.length_take];omega
        obtain ⟨Y,hY⟩:∃ Y,Y = X ++ (B.take j).map (catS s):=⟨_,rfl⟩
        rw [← hY] at htkB hYl ⊢
        have q1:=big_le (n:=Y.length + 1) (by omega)
        have q2:=big_mul (n:=Y.length + 1) (c:=56) (by omega) (by omega)
        have hYm:(Y.map eS0).length = Y.length:=List.length_map _
        have e1:=eq_true (And.intro hsm.1 hcm.1)
        have e2:=eq_true (And.intro hsm.2 hcm.2)
        repeat' (first|with_reducible (first|refine Q1 ?_|refine Q2 ?_|refine Q3 ?_|refine Q4 ?_|refine Q5 ?_|refine Q6 ?_|refine Q7 ?_|refine Q8 ?_|refine Q9 ?_|refine Qa ?_|refine Qb ?_|refine Qc ?_|refine Qd ?_|refine Qe ?_|refine Qf ?_)|((with_reducible refine Qo ?_ ?_);focus rfl)|((with_reducible first|refine QT 59 (l:=?_) ?_ ?_|refine QF 59 (l:=?_) ?_ ?_);rotate_left 1;focus (simp only [Zu,Nat.reduceSub,Nat.reduceBEq];with_reducible rfl))|((with_reducible first|refine QS (cfg_ok 80) Tab.none (s':=?_) ?_ ?_|refine QC (b:=?_) ?_ ?_);rotate_left 1;focus ((with_reducible refine QW ?_);simp only [Zg,seval,if_true,if_false,reduceCtorEq,Nat.reduceEqDiff,l1,l2,hgc,hBl,Int.toNat_natCast];with_reducible rfl))|((with_reducible refine QD (cfg_ok 80) Tab.none mixed_ok (tr:=?_) (s':=?_) ?_ ?_ ?_);rotate_left 2;(focus ((with_reducible refine QW ?_);simp only [Zg,Zd,seval,if_true,if_false,reduceCtorEq,Nat.reduceEqDiff,l1,l2,hgc,hBl,Int.toNat_natCast];with_reducible rfl));focus ((with_reducible refine QK ?_);simp only [Zk];kernel_rfl)))
        (((with_reducible refine RunK.wFz (cfg_ok 80) TCat mixed_ok [41,47] (tr:=?_) (s1:=?_) (rest:=?_) ?_ ?_ ?_);rotate_left 3;(focus ((with_reducible refine QW ?_);simp only [Zg,Zd,seval,if_true,if_false,reduceCtorEq,Nat.reduceEqDiff,drunF,devalF,devalB,valD,dregF_mk,List.contains_cons,List.contains_nil,TCat,TCat,codLLL_d,cat2_eq,e1,e2,q1,q2,hYm];with_reducible rfl));focus ((with_reducible refine QK ?_);simp only [Zk];kernel_rfl));(refine ROps.opsT (cfg_ok 80) (T:=TCat) (s':=?_) ?_ ?_;rotate_left 1;focus (simp only [Zg,seval,if_true,if_false,reduceCtorEq,Nat.reduceEqDiff,TCat,TCat,codLLL_d,cat2_eq,e1,e2,q1,q2,hYm];with_reducible rfl)))
        repeat' (first|with_reducible (first|refine Q1 ?_|refine Q2 ?_|refine Q3 ?_|refine Q4 ?_|refine Q5 ?_|refine Q6 ?_|refine Q7 ?_|refine Q8 ?_|refine Q9 ?_|refine Qa ?_|refine Qb ?_|refine Qc ?_|refine Qd ?_|refine Qe ?_|refine Qf ?_)|((with_reducible refine Qo ?_ ?_);focus rfl)|((with_reducible first|refine QT 59 (l:=?_) ?_ ?_|refine QF 59 (l:=?_) ?_ ?_);rotate_left 1;focus (simp only [Zu,Nat.reduceSub,Nat.reduceBEq];with_reducible rfl))|((with_reducible first|refine QS (cfg_ok 80) Tab.none (s':=?_) ?_ ?_|refine QC (b:=?_) ?_ ?_);rotate_left 1;focus ((with_reducible refine QW ?_);simp only [Zg,seval,if_true,if_false,reduceCtorEq,Nat.reduceEqDiff,hwj];with_reducible rfl))|((with_reducible refine QD (cfg_ok 80) Tab.none mixed_ok (tr:=?_) (s':=?_) ?_ ?_ ?_);rotate_left 2;(focus ((with_reducible refine QW ?_);simp only [Zg,Zd,seval,if_true,if_false,reduceCtorEq,Nat.reduceEqDiff,hwj];with_reducible rfl));focus ((with_reducible refine QK ?_);simp only [Zk];kernel_rfl)))
        refine roundK.on (j + 1) ⟨hjB,by omega⟩ ?_
        rw [htkB]
        (repeat' (first|with_reducible refine Qn|((with_reducible refine Qr ?_ ?_);focus (first|with_reducible rfl|(simp only [Zz,Nat.reduceBEq,eS0,catS];done)|rfl))|((with_reducible refine Qj (o':=?_) ?_ ?_ ?_);rotate_left 1;focus rfl)|((with_reducible refine Qw ?_ ?_);(focus (first|with_reducible rfl|(simp only [Zv,eS0,catS];done)));focus (first|exact id|exact (fun h => nomatch h)|exact (fun _ => rfl)))))
       ·have l1:((j:Int) < (B.length:Int)) = False:=eq_false (by omega)
        obtain rfl:j = B.length:=by omega
        rw [List.take_length]
        repeat' (first|with_reducible (first|refine Q1 ?_|refine Q2 ?_|refine Q3 ?_|refine Q4 ?_|refine Q5 ?_|refine Q6 ?_|refine Q7 ?_|refine Q8 ?_|refine Q9 ?_|refine Qa ?_|refine Qb ?_|refine Qc ?_|refine Qd ?_|refine Qe ?_|refine Qf ?_)|((with_reducible refine Qo ?_ ?_);focus rfl)|((with_reducible first|refine QT 59 (l:=?_) ?_ ?_|refine QF 59 (l:=?_) ?_ ?_);rotate_left 1;focus (simp only [Zu,Nat.reduceSub,Nat.reduceBEq];with_reducible rfl))|((with_reducible first|refine QS (cfg_ok 80) Tab.none (s':=?_) ?_ ?_|refine QC (b:=?_) ?_ ?_);rotate_left 1;focus ((with_reducible refine QW ?_);simp only [Zg,seval,if_true,if_false,reduceCtorEq,Nat.reduceEqDiff,l1];with_reducible rfl))|((with_reducible refine QD (cfg_ok 80) Tab.none mixed_ok (tr:=?_) (s':=?_) ?_ ?_ ?_);rotate_left 2;(focus ((with_reducible refine QW ?_);simp only [Zg,Zd,seval,if_true,if_false,reduceCtorEq,Nat.reduceEqDiff,l1];with_reducible rfl));focus ((with_reducible refine QK ?_);simp only [Zk];kernel_rfl)))
        refine roundK.out () trivial ?_
        (repeat' (first|with_reducible refine Qn|((with_reducible refine Qr ?_ ?_);focus (first|with_reducible rfl|(simp only [Zz,Nat.reduceBEq];done)|rfl))|((with_reducible refine Qj (o':=?_) ?_ ?_ ?_);rotate_left 1;focus rfl)|((with_reducible refine Qw ?_ ?_);(focus (first|with_reducible rfl|(simp only [Zv];done)));focus (first|exact id|exact (fun h => nomatch h)|exact (fun _ => rfl)))))
      ·rintro _ _
       repeat' (first|with_reducible (first|refine Q1 ?_|refine Q2 ?_|refine Q3 ?_|refine Q4 ?_|refine Q5 ?_|refine Q6 ?_|refine Q7 ?_|refine Q8 ?_|refine Q9 ?_|refine Qa ?_|refine Qb ?_|refine Qc ?_|refine Qd ?_|refine Qe ?_|refine Qf ?_)|((with_reducible refine Qo ?_ ?_);focus rfl)|((with_reducible first|refine QT 59 (l:=?_) ?_ ?_|refine QF 59 (l:=?_) ?_ ?_);rotate_left 1;focus (simp only [Zu,Nat.reduceSub,Nat.reduceBEq];with_reducible rfl))|((with_reducible first|refine QS (cfg_ok 80) Tab.none (s':=?_) ?_ ?_|refine QC (b:=?_) ?_ ?_);rotate_left 1;focus ((with_reducible refine QW ?_);simp only [Zg,seval,if_true,if_false,reduceCtorEq,Nat.reduceEqDiff,hwi];with_reducible rfl))|((with_reducible refine QD (cfg_ok 80) Tab.none mixed_ok (tr:=?_) (s':=?_) ?_ ?_ ?_);rotate_left 2;(focus ((with_reducible refine QW ?_);simp only [Zg,Zd,seval,if_true,if_false,reduceCtorEq,Nat.reduceEqDiff,hwi];with_reducible rfl));focus ((with_reducible refine QK ?_);simp only [Zk];kernel_rfl)))
       refine roundK.on (i + 1) ⟨hiA,by omega⟩ ?_
       rw [htkA]
       (repeat' (first|with_reducible refine Qn|((with_reducible refine Qr ?_ ?_);focus (first|with_reducible rfl|(simp only [Zz,Nat.reduceBEq];done)|rfl))|((with_reducible refine Qj (o':=?_) ?_ ?_ ?_);rotate_left 1;focus rfl)|((with_reducible refine Qw ?_ ?_);(focus (first|with_reducible rfl|(simp only [Zv];done)));focus (first|exact id|exact (fun h => nomatch h)|exact (fun _ => rfl)))))
     ·have j1:((i:Int) < (A.length:Int)) = False:=eq_false (by omega)
      obtain rfl:i = A.length:=by omega
      rw [List.take_length]
      repeat' (first|with_reducible (first|refine Q1 ?_|refine Q2 ?_|refine Q3 ?_|refine Q4 ?_|refine Q5 ?_|refine Q6 ?_|refine Q7 ?_|refine Q8 ?_|refine Q9 ?_|refine Qa ?_|refine Qb ?_|refine Qc ?_|refine Qd ?_|refine Qe ?_|refine Qf ?_)|((with_reducible refine Qo ?_ ?_);focus rfl)|((with_reducible first|refine QT 59 (l:=?_) ?_ ?_|refine QF 59 (l:=?_) ?_ ?_);rotate_left 1;focus (simp only [Zu,Nat.reduceSub,Nat.reduceBEq];with_reducible rfl))|((with_reducible first|refine QS (cfg_ok 80) Tab.none (s':=?_) ?_ ?_|refine QC (b:=?_) ?_ ?_);rotate_left 1;focus ((with_reducible refine QW ?_);simp only [Zg,seval,if_true,if_false,reduceCtorEq,Nat.reduceEqDiff,j1];with_reducible rfl))|((with_reducible refine QD (cfg_ok 80) Tab.none mixed_ok (tr:=?_) (s':=?_) ?_ ?_ ?_);rotate_left 2;(focus ((with_reducible refine QW ?_);simp only [Zg,Zd,seval,if_true,if_false,reduceCtorEq,Nat.reduceEqDiff,j1];with_reducible rfl));focus ((with_reducible refine QK ?_);simp only [Zk];kernel_rfl)))
      refine roundK.out () trivial ?_
      (repeat' (first|with_reducible refine Qn|((with_reducible refine Qr ?_ ?_);focus (first|with_reducible rfl|(simp only [Zz,Nat.reduceBEq];done)|rfl))|((with_reducible refine Qj (o':=?_) ?_ ?_ ?_);rotate_left 1;focus rfl)|((with_reducible refine Qw ?_ ?_);(focus (first|with_reducible rfl|(simp only [Zv];done)));focus (first|exact id|exact (fun h => nomatch h)|exact (fun _ => rfl)))))
    ·rintro _ _
     repeat' (first|with_reducible (first|refine Q1 ?_|refine Q2 ?_|refine Q3 ?_|refine Q4 ?_|refine Q5 ?_|refine Q6 ?_|refine Q7 ?_|refine Q8 ?_|refine Q9 ?_|refine Qa ?_|refine Qb ?_|refine Qc ?_|refine Qd ?_|refine Qe ?_|refine Qf ?_)|((with_reducible refine Qo ?_ ?_);focus rfl)|((with_reducible first|refine QT 59 (l:=?_) ?_ ?_|refine QF 59 (l:=?_) ?_ ?_);rotate_left 1;focus (simp only [Zu,Nat.reduceSub,Nat.reduceBEq];with_reducible rfl))|((with_reducible first|refine QS (cfg_ok 80) Tab.none (s':=?_) ?_ ?_|refine QC (b:=?_) ?_ ?_);rotate_left 1;focus ((with_reducible refine QW ?_);simp only [Zg,seval,if_true,if_false,reduceCtorEq,Nat.reduceEqDiff,hwk];with_reducible rfl))|((with_reducible refine QD (cfg_ok 80) Tab.none mixed_ok (tr:=?_) (s':=?_) ?_ ?_ ?_);rotate_left 2;(focus ((with_reducible refine QW ?_);simp only [Zg,Zd,seval,if_true,if_false,reduceCtorEq,Nat.reduceEqDiff,hwk];with_reducible rfl));focus ((with_reducible refine QK ?_);simp only [Zk];kernel_rfl)))
     refine roundK.on (k + 1) ⟨hkb,by omega⟩ ?_
     rw [htk]
     (repeat' (first|with_reducible refine Qn|((with_reducible refine Qr ?_ ?_);focus (first|with_reducible rfl|(simp only [Zz,Nat.reduceBEq];done)|rfl))|((with_reducible refine Qj (o':=?_) ?_ ?_ ?_);rotate_left 1;focus rfl)|((with_reducible refine Qw ?_ ?_);(focus (first|with_reducible rfl|(simp only [Zv];done)));focus (first|exact id|exact (fun h => nomatch h)|exact (fun _ => rfl)))))
   ·have i1:((k:Int) < ((brs t).length:Int)) = False:=eq_false (by omega)
    obtain rfl:k = (brs t).length:=by omega
    rw [List.take_length]
    repeat' (first|with_reducible (first|refine Q1 ?_|refine Q2 ?_|refine Q3 ?_|refine Q4 ?_|refine Q5 ?_|refine Q6 ?_|refine Q7 ?_|refine Q8 ?_|refine Q9 ?_|refine Qa ?_|refine Qb ?_|refine Qc ?_|refine Qd ?_|refine Qe ?_|refine Qf ?_)|((with_reducible refine Qo ?_ ?_);focus rfl)|((with_reducible first|refine QT 59 (l:=?_) ?_ ?_|refine QF 59 (l:=?_) ?_ ?_);rotate_left 1;focus (simp only [Zu,Nat.reduceSub,Nat.reduceBEq];with_reducible rfl))|((with_reducible first|refine QS (cfg_ok 80) Tab.none (s':=?_) ?_ ?_|refine QC (b:=?_) ?_ ?_);rotate_left 1;focus ((with_reducible refine QW ?_);simp only [Zg,seval,if_true,if_false,reduceCtorEq,Nat.reduceEqDiff,i1];with_reducible rfl))|((with_reducible refine QD (cfg_ok 80) Tab.none mixed_ok (tr:=?_) (s':=?_) ?_ ?_ ?_);rotate_left 2;(focus ((with_reducible refine QW ?_);simp only [Zg,Zd,seval,if_true,if_false,reduceCtorEq,Nat.reduceEqDiff,i1];with_reducible rfl));focus ((with_reducible refine QK ?_);simp only [Zk];kernel_rfl)))
    refine roundK.out () trivial ?_
    (repeat' (first|with_reducible refine Qn|((with_reducible refine Qr ?_ ?_);focus (first|with_reducible rfl|(simp only [Zz,Nat.reduceBEq];done)|rfl))|((with_reducible refine Qj (o':=?_) ?_ ?_ ?_);rotate_left 1;focus rfl)|((with_reducible refine Qw ?_ ?_);(focus (first|with_reducible rfl|(simp only [Zv];done)));focus (first|exact id|exact (fun h => nomatch h)|exact (fun _ => rfl)))))
  ·rintro _ _
   have g1:=prod_good hlev
   have g2:=prod_len hlev (by omega)
   obtain ⟨A,hA⟩:∃ A,A = prodS ((brs t).map split):=⟨_,rfl⟩
   rw [← hA] at g1 g2 ⊢
   repeat' (first|with_reducible (first|refine Q1 ?_|refine Q2 ?_|refine Q3 ?_|refine Q4 ?_|refine Q5 ?_|refine Q6 ?_|refine Q7 ?_|refine Q8 ?_|refine Q9 ?_|refine Qa ?_|refine Qb ?_|refine Qc ?_|refine Qd ?_|refine Qe ?_|refine Qf ?_)|((with_reducible refine Qo ?_ ?_);focus rfl)|((with_reducible first|refine QT 59 (l:=?_) ?_ ?_|refine QF 59 (l:=?_) ?_ ?_);rotate_left 1;focus (simp only [Zu,Nat.reduceSub,Nat.reduceBEq];with_reducible rfl))|((with_reducible first|refine QS (cfg_ok 80) Tab.none (s':=?_) ?_ ?_|refine QC (b:=?_) ?_ ?_);rotate_left 1;focus ((with_reducible refine QW ?_);simp only [Zg,seval,if_true,if_false,reduceCtorEq,Nat.reduceEqDiff];with_reducible rfl))|((with_reducible refine QD (cfg_ok 80) Tab.none mixed_ok (tr:=?_) (s':=?_) ?_ ?_ ?_);rotate_left 2;(focus ((with_reducible refine QW ?_);simp only [Zg,Zd,seval,if_true,if_false,reduceCtorEq,Nat.reduceEqDiff];with_reducible rfl));focus ((with_reducible refine QK ?_);simp only [Zk];kernel_rfl)))
   refine RunK.loop (β:=Nat) (γ:=Unit) (fun i => ⟨[(0,.c (.val (.sl 1 (t.map eI)))),(3,.c (.own 3 A.length)),(56,.c (.own 3 A.length)),(57,.c (.val (.int A.length))),(58,.c (.val (.int i)))],[(3,.row 3 ((A.take i).map (fun s => eS0 (rootS s)) ++ (A.drop i).map eS0) false)]⟩) (fun i => i ≤ A.length) (fun i => A.length - i)
    (fun _ => ⟨[(0,.c (.val (.sl 1 (t.map eI)))),(3,.c (.own 3 A.length))],[(3,.row 3 (A.map fun s => eS0 (rootS s)) false)]⟩) (fun _ => True) 0 (Nat.zero_le _) ?_ ?_ ?_
   ·(repeat' (first|with_reducible refine Qn|((with_reducible refine Qr ?_ ?_);focus (first|with_reducible rfl|(simp only [Zz,Nat.reduceBEq,List.take_zero,List.drop_zero,List.map_nil,List.nil_append,Int.natCast_zero];done)|rfl))|((with_reducible refine Qj (o':=?_) ?_ ?_ ?_);rotate_left 1;focus rfl)|((with_reducible refine Qw ?_ ?_);(focus (first|with_reducible rfl|(simp only [Zv,List.take_zero,List.drop_zero,List.map_nil,List.nil_append,Int.natCast_zero];done)));focus (first|exact id|exact (fun h => nomatch h)|exact (fun _ => rfl)))))
   ·intro i hi
    have hi:i ≤ A.length:=hi
    have hwi:=w64_succ (n:=i) (by omega)
    have hrl:((A.take i).map (fun s => eS0 (rootS s)) ++ (A.drop i).map eS0).length = A.length:=by rw [List.length_append,List.length_map,List.length_map,List.length_take,List.length_drop];omega
    by_cases hiA:i < A.length
    ·have j1:((i:Int) < (A.length:Int)) = True:=eq_true (by omega)
     have j2:((0:Int) ≤ (i:Int)) = True:=eq_true (by omega)
     obtain ⟨s,hs⟩:∃ s,s = A[i]:=⟨_,rfl⟩
     have hgood:=g1 A[i] (List.getElem_mem _)
     have hdr:A.drop i = s :: A.drop (i + 1):=by rw [hs];exact List.drop_eq_getElem_cons hiA
     have hti:((A.take i).map fun s => eS0 (rootS s)).length = i:=by rw [List.length_map,List.length_take];omega
     have hgs:((A.take i).map (fun s => eS0 (rootS s)) ++ (A.drop i).map eS0)[i]? = some [.sl 1 (s.1.map eL),.sl 1 (s.2.map eL),.int 0]:=by
      rw [List.getElem?_append_right (by omega),hti,Nat.sub_self,hdr];rfl
     rw [← hs] at hgood
     have hlv:∀ b ∈ s.2,LevP b:=fun b hb => (hgood.1 b (by simp [hb])).1
     have hsum:=hgood.2
     have hro:=AFn.valT (a_rootOn s.2 (fun b hb => (hlv b hb).small (by have:=sumLen_mem hb;omega)) (by omega))
     have hcr:=AFn.valT (a_canonical13 (rootOn s.2) (rootOn_lev hlv) (by rw [rootOn_len];omega))
     simp only [eL,eLL] at hro hcr
     repeat' (first|with_reducible (first|refine Q1 ?_|refine Q2 ?_|refine Q3 ?_|refine Q4 ?_|refine Q5 ?_|refine Q6 ?_|refine Q7 ?_|refine Q8 ?_|refine Q9 ?_|refine Qa ?_|refine Qb ?_|refine Qc ?_|refine Qd ?_|refine Qe ?_|refine Qf ?_)|((with_reducible refine Qo ?_ ?_);focus rfl)|((with_reducible first|refine QT 59 (l:=?_) ?_ ?_|refine QF 59 (l:=?_) ?_ ?_);rotate_left 1;focus (simp only [Zu,Nat.reduceSub,Nat.reduceBEq];with_reducible rfl))|((with_reducible first|refine QS (cfg_ok 80) ((Tab.none.at' 129 hro).at' 105 hcr) (s':=?_) ?_ ?_|refine QC (b:=?_) ?_ ?_);rotate_left 1;focus ((with_reducible refine QW ?_);simp only [Zg,seval,if_true,if_false,reduceCtorEq,Nat.reduceEqDiff,j1,j2,hgs,hrl,hwi,Int.toNat_natCast];with_reducible rfl))|((with_reducible refine QD (cfg_ok 80) ((Tab.none.at' 129 hro).at' 105 hcr) mixed_ok (tr:=?_) (s':=?_) ?_ ?_ ?_);rotate_left 2;(focus ((with_reducible refine QW ?_);simp only [Zg,Zd,seval,if_true,if_false,reduceCtorEq,Nat.reduceEqDiff,j1,j2,hgs,hrl,hwi,Int.toNat_natCast];with_reducible rfl));focus ((with_reducible refine QK ?_);simp only [Zk];kernel_rfl)))
     have hset:((A.take i).map (fun s => eS0 (rootS s)) ++ (A.drop i).map eS0).set i [.sl 1 (s.1.map eL),.sl 1 [[.sl 1 ((canon (rootOn s.2)).map eI)]],.int 0] = (A.take (i + 1)).map (fun s => eS0 (rootS s)) ++ (A.drop (i + 1)).map eS0:=by
      rw [List.set_append_right _ _ (by omega),hti,Nat.sub_self,hdr,List.map_cons,List.set_cons_zero,List.take_succ_eq_append_getElem hiA,List.map_append,List.append_assoc,← hs]
      rfl
     refine roundK.on (i + 1) ⟨hiA,by omega⟩ ?_
     rw [← hset]
     (repeat' (first|with_reducible refine Qn|((with_reducible refine Qr ?_ ?_);focus (first|with_reducible rfl|(simp only [Zz,Nat.reduceBEq];done)|rfl))|((with_reducible refine Qj (o':=?_) ?_ ?_ ?_);rotate_left 1;focus rfl)|((with_reducible refine Qw ?_ ?_);(focus (first|with_reducible rfl|(simp only [Zv];done)));focus (first|exact id|exact (fun h => nomatch h)|exact (fun _ => rfl)))))
    ·have j1:((i:Int) < (A.length:Int)) = False:=eq_false (by omega)
     obtain rfl:i = A.length:=by omega
     have hd0:A.drop A.length = []:=List.drop_length
     repeat' (first|with_reducible (first|refine Q1 ?_|refine Q2 ?_|refine Q3 ?_|refine Q4 ?_|refine Q5 ?_|refine Q6 ?_|refine Q7 ?_|refine Q8 ?_|refine Q9 ?_|refine Qa ?_|refine Qb ?_|refine Qc ?_|refine Qd ?_|refine Qe ?_|refine Qf ?_)|((with_reducible refine Qo ?_ ?_);focus rfl)|((with_reducible first|refine QT 59 (l:=?_) ?_ ?_|refine QF 59 (l:=?_) ?_ ?_);rotate_left 1;focus (simp only [Zu,Nat.reduceSub,Nat.reduceBEq];with_reducible rfl))|((with_reducible first|refine QS (cfg_ok 80) Tab.none (s':=?_) ?_ ?_|refine QC (b:=?_) ?_ ?_);rotate_left 1;focus ((with_reducible refine QW ?_);simp only [Zg,seval,if_true,if_false,reduceCtorEq,Nat.reduceEqDiff,j1];with_reducible rfl))|((with_reducible refine QD (cfg_ok 80) Tab.none mixed_ok (tr:=?_) (s':=?_) ?_ ?_ ?_);rotate_left 2;(focus ((with_reducible refine QW ?_);simp only [Zg,Zd,seval,if_true,if_false,reduceCtorEq,Nat.reduceEqDiff,j1];with_reducible rfl));focus ((with_reducible refine QK ?_);simp only [Zk];kernel_rfl)))
     refine roundK.out () trivial ?_
     rw [List.take_length,hd0,List.map_nil,List.append_nil]
     (repeat' (first|with_reducible refine Qn|((with_reducible refine Qr ?_ ?_);focus (first|with_reducible rfl|(simp only [Zz,Nat.reduceBEq];done)|rfl))|((with_reducible refine Qj (o':=?_) ?_ ?_ ?_);rotate_left 1;focus rfl)|((with_reducible refine Qw ?_ ?_);(focus (first|with_reducible rfl|(simp only [Zv];done)));focus (first|exact id|exact (fun h => nomatch h)|exact (fun _ => rfl)))))
   ·rintro _ _
    have q1:=big_le (n:=A.length + 1) (by omega)
    have q2:=big_mul (n:=A.length + 1) (c:=56) (by omega) (by omega)
    have hml:(A.map fun s => eS0 (rootS s)).length = A.length:=List.length_map _
    repeat' (first|with_reducible (first|refine Q1 ?_|refine Q2 ?_|refine Q3 ?_|refine Q4 ?_|refine Q5 ?_|refine Q6 ?_|refine Q7 ?_|refine Q8 ?_|refine Q9 ?_|refine Qa ?_|refine Qb ?_|refine Qc ?_|refine Qd ?_|refine Qe ?_|refine Qf ?_)|((with_reducible refine Qo ?_ ?_);focus rfl)|((with_reducible first|refine QT 59 (l:=?_) ?_ ?_|refine QF 59 (l:=?_) ?_ ?_);rotate_left 1;focus (simp only [Zu,Nat.reduceSub,Nat.reduceBEq];with_reducible rfl))|((with_reducible first|refine QS (cfg_ok 80) (Tab.none.at' 105 hca) (s':=?_) ?_ ?_|refine QC (b:=?_) ?_ ?_);rotate_left 1;focus ((with_reducible refine QW ?_);simp only [Zg,seval,if_true,if_false,reduceCtorEq,Nat.reduceEqDiff,q1,q2,hml];with_reducible rfl))|((with_reducible refine QD (cfg_ok 80) (Tab.none.at' 105 hca) mixed_ok (tr:=?_) (s':=?_) ?_ ?_ ?_);rotate_left 2;(focus ((with_reducible refine QW ?_);simp only [Zg,Zd,seval,if_true,if_false,reduceCtorEq,Nat.reduceEqDiff,q1,q2,hml];with_reducible rfl));focus ((with_reducible refine QK ?_);simp only [Zk];kernel_rfl)))
    (refine Ends.mk (by simp) (rs:=?_) (ks:=?_) hres hrts ?_ ?_ ?_;rotate_left 2;(focus (simp only [Ze,Zg,seval,if_true,if_false,reduceCtorEq,Nat.reduceEqDiff,List.map_append,List.map_map,Function.comp_def,eS0,List.map_cons,List.map_nil,eL,rootS];with_reducible rfl));(focus simp);focus (first|with_reducible rfl|(simp only [Zv,List.map_append,List.map_map,Function.comp_def,eS0,List.map_cons,List.map_nil,eL,rootS];done)))
end Go.Proofs.Ytofpjonggpjneaa
namespace Go.Proofs.Ytofpjonggpjneaa
open Go.RowKit
section
variable {α:Type} (f g:α→List (List D)) (n:α→Int)
def e3 (x:α):List D:=[.sl 1 (f x),.sl 1 (g x),.int (n x)]
end
abbrev Cu:=(List (List Int) × List Int) × Int
def eCu:Cu→List D:=e3 (fun c:Cu => c.1.1.map eL) (fun c => c.1.2.map eI) (·.2)
def cutS (z:Spl × Int):Cu:=((z.1.1,z.1.2.headD []),z.2)
def cutsL (t:List Int):List Cu:=(gathS (split t)).map cutS
section
variable {P:Program} {cfg:Cfg} {M:Nat→Prop} {ops:Array Oper} {s:St} {w0:W0} {w:World} {Ok:Nat→Prop} {N:Nat} {σ:Asg} {a:Act} {fs:List Fr} {Q:Exit→St→Prop}
end
theorem split_trunk (t:List Int) (h:LevP t):∀ s ∈ split t,s.2.length ≤ 1:=fun s hs => by
 rw [split_eq h] at hs
 rcases List.mem_append.1 hs with hs|hs
 ·obtain ⟨a,_,rfl⟩:=List.mem_map.1 hs
  exact Nat.le_refl _
 ·obtain rfl:=List.mem_singleton.1 hs
  exact Nat.zero_le _
theorem gath_trunk (t:List Int) (h:LevP t):∀ z ∈ gathS (split t),z.1.2.length ≤ 1:=fun z hz => by
 obtain ⟨s,hs,e⟩:=List.mem_map.1 ((gathS_is (split t)).key z hz)
 rw [← e]
 show (sortC cmpT s.2).length ≤ 1
 rw [sortC_length];exact split_trunk t h s hs
end Go.Proofs.Ytofpjonggpjneaa
namespace Go.Proofs.Ytofpjonggpjneaa
open Go.RowKit
def trunks (t:List Int):List (List Int):=(split t).flatMap (·.2)
def rsOf (t:List Int):List (List Int × Int) × Int:=if lev8 t = true then (cntOf (trunks t),0) else ([],1)
def rsF (P:List Cu):List (List Int × Int):=P.foldl (fun s c => if 0 < c.1.2.length then putC s c.1.2 c.2 else s) []
theorem rsF_snoc (P:List Cu) (c:Cu):rsF (P ++ [c]) = if 0 < c.1.2.length then putC (rsF P) c.1.2 c.2 else rsF P:=by unfold rsF;rw [List.foldl_append];rfl
def expR (P:List Cu):List (List Int):=P.flatMap fun c => if 0 < c.1.2.length then List.replicate c.2.toNat c.1.2 else []
theorem expR_snoc (P:List Cu) (c:Cu):expR (P ++ [c]) = expR P ++ (if 0 < c.1.2.length then List.replicate c.2.toNat c.1.2 else []):=by simp [expR]
theorem rsF_is:∀ (n:Nat) (P:List Cu),P.length = n→(∀ c ∈ P,1 ≤ c.2)→IsN cmpT (rsF P) (expR P)
 | 0,P,h,_ => by rw [List.length_eq_zero_iff.1 h];exact IsN.nil
 | n + 1,P,h,hp => by
  have hne:P ≠ []:=by intro e;rw [e] at h;simp at h
  rw [← List.dropLast_concat_getLast hne] at hp ⊢
  have ih:=rsF_is n P.dropLast (by simp [h]) (fun c hc => hp c (by simp [hc]))
  have h1:=hp (P.getLast hne) (by simp)
  rw [rsF_snoc,expR_snoc]
  by_cases e:0 < (P.getLast hne).1.2.length
  ·rw [if_pos e,if_pos e,putC_putN]
   exact ih.put (hc:=cmpT_cmp) h1
  ·rw [if_neg e,if_neg e,List.append_nil]
   exact ih
theorem flatR1 {α β:Type} (f:α→List β) (n:Nat) (a:α) (b:β) (h:f a = [b]):(List.replicate n a).flatMap f = List.replicate n b:=by
 induction n with
 | zero => rfl
 | succ n ih => rw [List.replicate_succ,List.flatMap_cons,ih,h];rfl
theorem flatR0 {α β:Type} (f:α→List β) (n:Nat) (a:α) (h:f a = []):(List.replicate n a).flatMap f = []:=by
 induction n with
 | zero => rfl
 | succ n ih => rw [List.replicate_succ,List.flatMap_cons,ih,h];rfl
theorem expR_exp:∀ (G:List (Spl × Int)),(∀ z ∈ G,z.1.2.length ≤ 1∧∀ t ∈ z.1.2,0 < t.length)→expR (G.map cutS) = (expN G).flatMap (·.2)
 | [],_ => rfl
 | z :: G,h => by
  have hz:=h z (by simp)
  rw [List.map_cons,expN_cons,List.flatMap_append,← expR_exp G (fun q hq => h q (by simp [hq]))]
  show (if 0 < (cutS z).1.2.length then List.replicate (cutS z).2.toNat (cutS z).1.2 else []) ++ expR (G.map cutS) = _
  congr 1
  obtain ⟨⟨f,g⟩,n⟩:=z
  match g,hz with
  | [],_ => rw [flatR0 _ _ _ rfl];rfl
  | [t],hz =>
   have ht:=hz.2 t (by simp)
   rw [show List.flatMap (fun x:Spl => x.2) (List.replicate n.toNat (f,[t])) = List.replicate n.toNat t from flatR1 (fun x:Spl => x.2) n.toNat (f,[t]) t rfl]
   show (if 0 < t.length then _ else _) = _
   rw [if_pos ht];rfl
  | a :: b :: g,hz => simp at hz
theorem nrm_trunks (L:List Spl):((L.map nrmS).flatMap (·.2)).Perm (L.flatMap (·.2)):=by
 rw [List.flatMap_map]
 exact flat_left L (fun s _ => sortC_perm s.2)
theorem rs_law {t:List Int} (h:LevP t):rsF (cutsL (canon t)) = cntOf (trunks t):=by
 have hu:=canon_lev h
 have hg:=gathS_is (split (canon t))
 have hcnt:=hg.cnt
 have h1:=rsF_is _ (cutsL (canon t)) rfl (fun c hc => by
  obtain ⟨z,hz,rfl⟩:=List.mem_map.1 hc
  exact (hcnt z hz).1)
 have h2:expR (cutsL (canon t)) = (expN (gathS (split (canon t)))).flatMap (·.2):=expR_exp _ (fun z hz => ⟨gath_trunk _ hu z hz,fun x hx => by
  have hk:=hg.key z hz
  obtain ⟨s,hs,e⟩:=List.mem_map.1 hk
  have hx':x ∈ s.2:=by
   rw [← e] at hx
   exact sortC_mem.1 hx
  exact ((split_good _ (Nat.le_refl _) hu s hs).1 x (by simp [hx'])).1.pos⟩)
 refine IsN.ext cmpT_cmp h1 (cntOf_is _) ?_
 rw [h2]
 have p1:((expN (gathS (split (canon t)))).flatMap (·.2)).Perm (((split (canon t)).map nrmS).flatMap (·.2)):=hg.2.flatMap_right _
 have p2:(((split (canon t)).map nrmS).flatMap (·.2)).Perm (((split t).map nrmS).flatMap (·.2)):=(split_canon _ (Nat.le_refl _) h).flatMap_right _
 exact p1.trans (p2.trans (nrm_trunks _))
theorem trunks_b {t:List Int} (h:LevP t) (h8:t.length ≤ 8):(trunks t).length ≤ 256∧sumLen (trunks t) ≤ 2048:=by
 have hl:(split t).length ≤ 256:=by
  have h1:=split_len _ (Nat.le_refl _) h
  have h2:2 ^ t.length ≤ 2 ^ 8:=Nat.pow_le_pow_right (by decide) h8
  omega
 have key:∀ (L:List Spl),(∀ s ∈ L,s.2.length ≤ 1∧sumLen s.2 ≤ 8)→(L.flatMap (·.2)).length ≤ L.length∧sumLen (L.flatMap (·.2)) ≤ 8 * L.length:=by
  intro L
  induction L with
  | nil => intro _;exact ⟨Nat.le_refl _,Nat.zero_le _⟩
  | cons s L ih =>
   intro hL
   have h1:=hL s (by simp)
   have h2:=ih (fun x hx => hL x (by simp [hx]))
   rw [List.flatMap_cons,List.length_append,sumLen_append,List.length_cons]
   omega
 have:=key (split t) (fun s hs => ⟨split_trunk t h s hs,by have:=(split_good _ (Nat.le_refl _) h s hs).2;omega⟩)
 unfold trunks
 omega
theorem trunk_take {t:List Int} (i:Nat) (hi:i < (split t).length):((split t).take (i + 1)).flatMap (·.2) = ((split t).take i).flatMap (·.2) ++ (split t)[i].2:=by
 rw [List.take_succ_eq_append_getElem hi,List.flatMap_append];simp
theorem trunk_sub {t:List Int} (i:Nat):(((split t).take i).flatMap (·.2)).length ≤ (trunks t).length:=by
 have e:trunks t = ((split t).take i).flatMap (·.2) ++ ((split t).drop i).flatMap (·.2):=by
  unfold trunks
  rw [← List.flatMap_append,List.take_append_drop]
 rw [e,List.length_append];omega
end Go.Proofs.Ytofpjonggpjneaa
namespace Go.Proofs.Ytofpjonggpjneaa
open Go.RowKit
section
variable {α:Type}
theorem swpL_at (xs:List α) (i j:Nat) (hi:i < xs.length) (hj:j < xs.length) (k:Nat):(swpL xs i j)[k]? = if k = j then xs[i]? else if k = i then xs[j]? else xs[k]?:=by
 by_cases hk:k < xs.length
 ·rw [List.getElem?_eq_getElem (by rw [swpL_length];exact hk),swpL_get xs i j hi hj k hk]
  split
  ·rw [List.getElem?_eq_getElem hi]
  ·split
   ·rw [List.getElem?_eq_getElem hj]
   ·rw [List.getElem?_eq_getElem hk]
 ·rw [List.getElem?_eq_none (by rw [swpL_length];omega),if_neg (by omega),if_neg (by omega),List.getElem?_eq_none (by omega)]
structure Ix (f:Nat→Nat) (xs ys:List α):Prop where
 len:ys.length = xs.length
 at_:∀ k,ys[k]? = xs[f k]?
theorem Ix.refl {f:Nat→Nat} {xs:List α} (h:∀ k,f k = k):Ix f xs xs:=⟨rfl,fun k => by rw [h]⟩
theorem Ix.congr {f g:Nat→Nat} {xs ys:List α} (a:Ix f xs ys) (e:∀ k,g k = f k):Ix g xs ys:=⟨a.len,fun k => by rw [e];exact a.at_ k⟩
theorem Ix.comp {f g h:Nat→Nat} {xs ys zs:List α} (a:Ix f xs ys) (b:Ix g ys zs) (e:∀ k,h k = f (g k)):Ix h xs zs:=⟨b.len.trans a.len,fun k => by rw [b.at_,a.at_,e]⟩
theorem Ix.swp {f g:Nat→Nat} {xs ys:List α} (h:Ix f xs ys) {i j:Nat} (hi:i < xs.length) (hj:j < xs.length) (hg:∀ k,g k = f (if k = j then i else if k = i then j else k)):Ix g xs (swpL ys i j):=by
 refine ⟨by rw [swpL_length,h.len],fun k => ?_⟩
 rw [swpL_at ys i j (by rw [h.len];exact hi) (by rw [h.len];exact hj),hg]
 split
 ·exact h.at_ _
 ·split
  ·exact h.at_ _
  ·exact h.at_ _
theorem Ix.get {f:Nat→Nat} {xs ys:List α} (h:Ix f xs ys) {k:Nat} (hk:k < ys.length):∃ hf:f k < xs.length,ys[k] = xs[f k]:=by
 have:=h.at_ k
 rw [List.getElem?_eq_getElem hk] at this
 obtain ⟨hf,e⟩:=List.getElem?_eq_some_iff.1 this.symm
 exact ⟨hf,e.symm⟩
def swpI (a b n k:Nat):Nat:=if a ≤ k∧k < a + n then k - a + b else if b ≤ k∧k < b + n then k - b + a else k
def rotI (a m b k:Nat):Nat:=if a ≤ k∧k < a + (b - m) then k + (m - a) else if a + (b - m) ≤ k∧k < b then k - (b - m) else k
theorem swpI_zero (a b k:Nat):swpI a b 0 k = k:=by unfold swpI;split <;> (try split) <;> omega
theorem swpI_succ {a b n i:Nat} (h:a + n ≤ b) (hi:i < n) (k:Nat):swpI a b (i + 1) k = swpI a b i (if k = b + i then a + i else if k = a + i then b + i else k):=by
 unfold swpI
 repeat' split
 all_goals omega
def RotS (a m b i j:Nat) (xs ys:List α):Prop:=∃ g,Ix g xs ys∧∀ k,rotI a m b k = g (rotI (m - i) m (m + j) k)
theorem RotS.start {a m b:Nat} {xs:List α} (h1:a ≤ m) (h2:m ≤ b):RotS a m b (m - a) (b - m) xs xs:=⟨fun k => k,.refl (fun _ => rfl),fun k => by rw [show m - (m - a) = a by omega,show m + (b - m) = b by omega]⟩
theorem RotS.left {a m b i j:Nat} {xs ys zs:List α} (h:RotS a m b i j xs ys) (hij:j < i) (him:i ≤ m) (hz:Ix (swpI (m - i) m j) ys zs):RotS a m b (i - j) j xs zs:=by
 obtain ⟨g,hg,e⟩:=h
 refine ⟨fun k => g (swpI (m - i) m j k),hg.comp hz (fun _ => rfl),fun k => ?_⟩
 rw [e]
 congr 1
 unfold rotI swpI
 repeat' split
 all_goals omega
theorem RotS.right {a m b i j:Nat} {xs ys zs:List α} (h:RotS a m b i j xs ys) (hij:i < j) (him:i ≤ m) (hz:Ix (swpI (m - i) (m + j - i) i) ys zs):RotS a m b i (j - i) xs zs:=by
 obtain ⟨g,hg,e⟩:=h
 refine ⟨fun k => g (swpI (m - i) (m + j - i) i k),hg.comp hz (fun _ => rfl),fun k => ?_⟩
 rw [e]
 congr 1
 unfold rotI swpI
 repeat' split
 all_goals omega
theorem RotS.done {a m b i:Nat} {xs ys zs:List α} (h:RotS a m b i i xs ys) (him:i ≤ m) (hz:Ix (swpI (m - i) m i) ys zs):Ix (rotI a m b) xs zs:=by
 obtain ⟨g,hg,e⟩:=h
 refine hg.comp hz fun k => ?_
 rw [e]
 congr 1
 unfold rotI swpI
 repeat' split
 all_goals omega
theorem rotI_left {a m:Nat} (h:a ≤ m) (k:Nat):rotI a m m k = k:=by unfold rotI;(repeat' split) <;> omega
theorem rotI_right {m b:Nat} (h:m ≤ b) (k:Nat):rotI m m b k = k:=by unfold rotI;(repeat' split) <;> omega
variable {c:α→α→Int}
def LeAt (c:α→α→Int) (xs:List α) (p q:Nat):Prop:=∀ (hp:p < xs.length) (hq:q < xs.length),c xs[p] xs[q] ≤ 0
theorem LeAt.trans (hc:Cmp c) {xs:List α} {p m q:Nat} (hm:m < xs.length) (h:LeAt c xs p m) (k:LeAt c xs m q):LeAt c xs p q:=fun hp hq => hc.trans _ _ _ (h hp hm) (k hm hq)
theorem SegOk.le {a b:Nat} {xs:List α} (h:SegOk c a b xs) {p q:Nat} (h1:a ≤ p) (h2:p < q) (h3:q < b):LeAt c xs p q:=fun hp hq => h p q hp hq h1 h2 h3
theorem SegOk.leR {a b:Nat} {xs:List α} (hc:Cmp c) (h:SegOk c a b xs) {p q:Nat} (h1:a ≤ p) (h2:p ≤ q) (h3:q < b):LeAt c xs p q:=fun hp hq => by
 by_cases e:p = q
 ·subst e;rw [hc.refl];exact Int.le_refl _
 ·exact h p q hp hq h1 (by omega) h3
theorem SegOk.sub {a b a' b':Nat} {xs:List α} (h:SegOk c a b xs) (h1:a ≤ a') (h2:b' ≤ b):SegOk c a' b' xs:=fun p q hp hq k1 k2 k3 => h p q hp hq (by omega) k2 (by omega)
def Over (c:α→α→Int) (a m b:Nat) (xs:List α):Prop:=∀ p q,a ≤ p→p < m→m ≤ q→q < b→LeAt c xs p q
theorem Over.seg {a m b:Nat} {xs:List α} (h1:SegOk c a m xs) (h2:SegOk c m b xs) (h:Over c a m b xs):SegOk c a b xs:=by
 intro p q hp hq k1 k2 k3
 by_cases e:q < m
 ·exact h1 p q hp hq k1 k2 e
 ·by_cases e2:m ≤ p
  ·exact h2 p q hp hq e2 k2 k3
  ·exact h p q k1 (by omega) (by omega) k3 hp hq
theorem LeAt.of {xs ys:List α} {p q p' q':Nat} (hp:ys[p]? = xs[p']?) (hq:ys[q]? = xs[q']?) (h:LeAt c xs p' q'):LeAt c ys p q:=by
 intro k1 k2
 rw [List.getElem?_eq_getElem k1] at hp
 rw [List.getElem?_eq_getElem k2] at hq
 obtain ⟨j1,e1⟩:=List.getElem?_eq_some_iff.1 hp.symm
 obtain ⟨j2,e2⟩:=List.getElem?_eq_some_iff.1 hq.symm
 rw [← e1,← e2]
 exact h j1 j2
theorem rot_lo {s m e k:Nat} (h:k < s):rotI s m e k = k:=by unfold rotI;(repeat' split) <;> omega
theorem rot_a {s m e k:Nat} (h:s ≤ k) (h2:k < s + (e - m)):rotI s m e k = k + (m - s):=by unfold rotI;rw [if_pos ⟨h,h2⟩]
theorem rot_b {s m e k:Nat} (h:s + (e - m) ≤ k) (h2:k < e):rotI s m e k = k - (e - m):=by unfold rotI;rw [if_neg (by omega),if_pos ⟨h,h2⟩]
theorem rot_hi {s m e k:Nat} (h:e ≤ k) (h1:s ≤ m) (h2:m ≤ e):rotI s m e k = k:=by unfold rotI;(repeat' split) <;> omega
theorem sym_split (hc:Cmp c) {xs ys:List α} {a s m e b mid:Nat} (h1:SegOk c a m xs) (h2:SegOk c m b xs) (hb:b ≤ xs.length) (has:a ≤ s) (hsm:s ≤ m) (hme:m ≤ e) (heb:e ≤ b) (hmid:mid = s + (e - m))
  (n1:s = a ∨ e = b ∨ LeAt c xs (s - 1) e) (n2:s = m ∨ m = e ∨ LeAt c xs (e - 1) s) (hr:Ix (rotI s m e) xs ys) :
  SegOk c a s ys∧SegOk c s mid ys∧SegOk c mid e ys∧SegOk c e b ys∧Over c a mid b ys:=by
 subst hmid
 have k1:∀ p q,a ≤ p→p < s→e ≤ q→q < b→LeAt c xs p q:=by
  intro p q g1 g2 g3 g4
  rcases n1 with n1|n1|n1
  ·omega
  ·omega
  ·exact (h1.leR hc g1 (show p ≤ s - 1 by omega) (by omega)).trans hc (by omega) (n1.trans hc (by omega) (h2.leR hc (by omega) g3 g4))
 have k2:∀ p q,s ≤ p→p < m→m ≤ q→q < e→LeAt c xs q p:=by
  intro p q g1 g2 g3 g4
  rcases n2 with n2|n2|n2
  ·omega
  ·omega
  ·exact (h2.leR hc g3 (show q ≤ e - 1 by omega) (by omega)).trans hc (by omega) (n2.trans hc (by omega) (h1.leR hc has g1 g2))
 refine ⟨?_,?_,?_,?_,?_⟩
 ·intro p q hp hq g1 g2 g3
  refine LeAt.of (hr.at_ p) (hr.at_ q) ?_ hp hq
  rw [rot_lo (by omega),rot_lo (by omega)]
  exact h1.le g1 g2 (by omega)
 ·intro p q hp hq g1 g2 g3
  refine LeAt.of (hr.at_ p) (hr.at_ q) ?_ hp hq
  rw [rot_a (by omega) (by omega),rot_a (by omega) (by omega)]
  exact h2.le (by omega) (by omega) (by omega)
 ·intro p q hp hq g1 g2 g3
  refine LeAt.of (hr.at_ p) (hr.at_ q) ?_ hp hq
  rw [rot_b (by omega) (by omega),rot_b (by omega) (by omega)]
  exact h1.le (by omega) (by omega) (by omega)
 ·intro p q hp hq g1 g2 g3
  refine LeAt.of (hr.at_ p) (hr.at_ q) ?_ hp hq
  rw [rot_hi (by omega) hsm hme,rot_hi (by omega) hsm hme]
  exact h2.le (by omega) (by omega) (by omega)
 ·intro p q g1 g2 g3 g4
  refine LeAt.of (hr.at_ p) (hr.at_ q) ?_
  by_cases hp:p < s
  ·rw [rot_lo hp]
   by_cases hq:q < e
   ·rw [rot_b g3 hq]
    exact h1.le g1 (by omega) (by omega)
   ·rw [rot_hi (by omega) hsm hme]
    exact k1 p q g1 hp (by omega) g4
  ·rw [rot_a (by omega) g2]
   by_cases hq:q < e
   ·rw [rot_b g3 hq]
    exact k2 _ _ (by omega) (by omega) (by omega) (by omega)
   ·rw [rot_hi (by omega) hsm hme]
    exact h2.le (by omega) (by omega) g4
theorem one_first (hc:Cmp c) {xs ys:List α} {a i b:Nat} (h2:SegOk c (a + 1) b xs) (hb:b ≤ xs.length) (hai:a + 1 ≤ i) (hib:i ≤ b) (n1:i = a + 1 ∨ LeAt c xs (i - 1) a) (n2:i = b ∨ LeAt c xs a i) (hr:Ix (rotI a (a + 1) i) xs ys):SegOk c a b ys:=by
 intro p q hp hq g1 g2 g3
 refine LeAt.of (hr.at_ p) (hr.at_ q) ?_ hp hq
 by_cases p1:p < i - 1
 ·rw [rot_a g1 (by omega)]
  by_cases q1:q < i - 1
  ·rw [rot_a (by omega) (by omega)]
   exact h2.le (by omega) (by omega) (by omega)
  ·by_cases q2:q < i
   ·obtain rfl:q = i - 1:=by omega
    rw [rot_b (by omega) (by omega),show i - 1 - (i - (a + 1)) = a by omega]
    rcases n1 with n1|n1
    ·omega
    ·exact (h2.leR hc (by omega) (show p + (a + 1 - a) ≤ i - 1 by omega) (by omega)).trans hc (by omega) n1
   ·rw [rot_hi (by omega) (by omega) hai]
    exact h2.le (by omega) (by omega) g3
 ·by_cases p2:p < i
  ·obtain rfl:p = i - 1:=by omega
   rw [rot_b (by omega) (by omega),show i - 1 - (i - (a + 1)) = a by omega,rot_hi (by omega) (by omega) hai]
   rcases n2 with n2|n2
   ·omega
   ·exact n2.trans hc (by omega) (h2.leR hc (by omega) (show i ≤ q by omega) g3)
  ·rw [rot_hi (by omega) (by omega) hai,rot_hi (by omega) (by omega) hai]
   exact h2.le (by omega) g2 g3
theorem one_last (hc:Cmp c) {xs ys:List α} {a i m:Nat} (h1:SegOk c a m xs) (hb:m < xs.length) (hai:a ≤ i) (him:i ≤ m) (n1:i = a ∨ LeAt c xs (i - 1) m) (n2:i = m ∨ LeAt c xs m i) (hr:Ix (rotI i m (m + 1)) xs ys):SegOk c a (m + 1) ys:=by
 intro p q hp hq g1 g2 g3
 refine LeAt.of (hr.at_ p) (hr.at_ q) ?_ hp hq
 by_cases p1:p < i
 ·rw [rot_lo p1]
  by_cases q1:q < i
  ·rw [rot_lo q1]
   exact h1.le g1 g2 (by omega)
  ·by_cases q2:q = i
   ·subst q2
    rw [rot_a (by omega) (by omega),show q + (m - q) = m by omega]
    rcases n1 with n1|n1
    ·omega
    ·exact (h1.leR hc g1 (show p ≤ q - 1 by omega) (by omega)).trans hc (by omega) n1
   ·rw [rot_b (by omega) g3]
    exact h1.le g1 (by omega) (by omega)
 ·by_cases p2:p = i
  ·subst p2
   rw [rot_a (by omega) (by omega),show p + (m - p) = m by omega,rot_b (by omega) g3]
   rcases n2 with n2|n2
   ·omega
   ·exact n2.trans hc (by omega) (h1.leR hc hai (show p ≤ q - (m + 1 - m) by omega) (by omega))
  ·rw [rot_b (by omega) (by omega),rot_b (by omega) g3]
   exact h1.le (by omega) (by omega) (by omega)
theorem PermIn.mid {a b:Nat} {xs ys:List α} (h:PermIn a b xs ys) (hab:a ≤ b):((ys.drop a).take (b - a)).Perm ((xs.drop a).take (b - a)):=by
 have e1:ys.take a = xs.take a:=by
  refine List.ext_getElem? fun k => ?_
  rw [List.getElem?_take,List.getElem?_take]
  split
  ·exact h.out k (.inl ‹_›)
  ·rfl
 have e2:ys.drop b = xs.drop b:=by
  refine List.ext_getElem? fun k => ?_
  rw [List.getElem?_drop,List.getElem?_drop]
  exact h.out _ (.inr (by omega))
 have sp:∀ zs:List α,zs = zs.take a ++ ((zs.drop a).take (b - a) ++ zs.drop b):=fun zs => by
  conv => lhs;rw [← List.take_append_drop a zs,← List.take_append_drop (b - a) (zs.drop a),List.drop_drop,show a + (b - a) = b by omega]
 have hp:=h.perm
 rw [sp ys,sp xs,e1,e2] at hp
 exact (List.perm_append_right_iff _).1 ((List.perm_append_left_iff _).1 hp)
theorem PermIn.mem {a b:Nat} {xs ys:List α} (h:PermIn a b xs ys) {p:Nat} (h1:a ≤ p) (h2:p < b) (hp:p < ys.length):∃ p',a ≤ p'∧p' < b∧ys[p]? = xs[p']?:=by
 have hm:ys[p] ∈ (ys.drop a).take (b - a):=by
  refine List.mem_iff_getElem?.2 ⟨p - a,?_⟩
  rw [List.getElem?_take,if_pos (by omega),List.getElem?_drop,show a + (p - a) = p by omega,List.getElem?_eq_getElem hp]
 obtain ⟨k,hk⟩:=List.mem_iff_getElem?.1 ((h.mid (by omega)).mem_iff.1 hm)
 rw [List.getElem?_take] at hk
 split at hk
 ·rw [List.getElem?_drop] at hk
  exact ⟨a + k,by omega,by omega,by rw [hk,List.getElem?_eq_getElem hp]⟩
 ·cases hk
theorem Over.perm1 {a m b:Nat} {xs ys:List α} (h:Over c a m b xs) (k:PermIn a m xs ys):Over c a m b ys:=by
 intro p q h1 h2 h3 h4 hp hq
 obtain ⟨p',g1,g2,g3⟩:=k.mem h1 h2 hp
 exact LeAt.of g3 (k.out q (.inr h3)) (h p' q g1 g2 h3 h4) hp hq
theorem Over.perm2 {a m b:Nat} {xs ys:List α} (h:Over c a m b xs) (k:PermIn m b xs ys):Over c a m b ys:=by
 intro p q h1 h2 h3 h4 hp hq
 obtain ⟨q',g1,g2,g3⟩:=k.mem h3 h4 hq
 exact LeAt.of (k.out p (.inl h2)) g3 (h p q' h1 h2 g1 g2) hp hq
theorem SegOk.perm {a b a' b':Nat} {xs ys:List α} (h:SegOk c a b xs) (k:PermIn a' b' xs ys) (hd:b ≤ a' ∨ b' ≤ a):SegOk c a b ys:=by
 intro p q hp hq h1 h2 h3
 exact LeAt.of (k.out p (by omega)) (k.out q (by omega)) (h.le h1 h2 h3) hp hq
end
end Go.Proofs.Ytofpjonggpjneaa

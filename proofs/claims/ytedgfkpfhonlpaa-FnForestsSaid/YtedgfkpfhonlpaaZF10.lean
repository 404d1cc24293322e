/- Lemmas (10). -/
import Derived.Deep.Cut
import Derived.Deep.CutRange
import Derived.Laws.Concat
import Derived.Laws.DeepStrings4
import Derived.Laws.Shifts
import Derived.Laws.Strings2
import Derived.Lib.AppendZeros
import Derived.WalkArith
import Derived.Test.YtedgfkpfhonlpaaZF0
import Derived.Test.YtedgfkpfhonlpaaZF1
import Derived.Test.YtedgfkpfhonlpaaZF2
import Derived.Test.YtedgfkpfhonlpaaZF6
import Derived.Test.YtedgfkpfhonlpaaZF7
import Derived.Test.YtedgfkpfhonlpaaZF8
set_option linter.unusedSimpArgs false
set_option linter.unusedVariables false
namespace Go.Proofs.Ytedgfkpfhonlpaa
open Go.RowKit
theorem rfRun_app:∀ (a b:List UInt8) (st:List (List Int) × Nat),rfRun (a ++ b) st = (rfRun a st).bind (rfRun b)
 | [],b,st => rfl
 | c :: a,b,st => by
  show (rfStep st c).bind (rfRun (a ++ b)) = ((rfStep st c).bind (rfRun a)).bind (rfRun b)
  cases h:rfStep st c with
  | none => rfl
  | some y => exact rfRun_app a b y
theorem rf_open (out:List (List Int)) (cur:List Int) (d:Nat) (h:0 < d):rfStep (out ++ [cur],d) 91 = some (out ++ [cur ++ [(d:Int)]],d + 1):=by
 unfold rfStep
 rw [if_pos (by decide)]
 show some (if d = 0 then _ else _) = _
 rw [if_neg (by omega)]
 simp
theorem rf_close (st:List (List Int)) (d:Nat):rfStep (st,d + 1) 93 = some (st,d):=by
 unfold rfStep
 rw [if_neg (by decide),if_pos ⟨by decide,Nat.succ_pos d⟩]
 rfl
theorem rf_list {f:List Int→List UInt8} (e:Nat):∀ (bs:List (List Int)),(∀ b ∈ bs,∀ out cur,rfRun (f b) (out ++ [cur],e) = some (out ++ [cur ++ b.map (· + (e:Int))],e)) →
  ∀ out cur,rfRun (bs.flatMap f) (out ++ [cur],e) = some (out ++ [cur ++ bs.flatMap fun b => b.map (· + (e:Int))],e)
 | [],_,out,cur => by simp [rfRun]
 | b :: bs,h,out,cur => by
  rw [List.flatMap_cons,rfRun_app,h b (by simp)]
  show rfRun (bs.flatMap f) (out ++ [cur ++ b.map (· + (e:Int))],e) = _
  rw [rf_list e bs (fun x hx => h x (by simp [hx]))]
  rw [List.flatMap_cons,List.append_assoc]
theorem rf_in:∀ (n:Nat) (t:List Int),LevP t→t.length ≤ n→∀ (d:Nat),0 < d→∀ out cur,rfRun (txtF n t) (out ++ [cur],d) = some (out ++ [cur ++ t.map (· + (d:Int))],d)
 | 0,t,h,hn,d,_,out,cur => by have:=h.pos;omega
 | n + 1,t,h,hn,d,hd,out,cur => by
  show rfRun (91 :: ((brs t).flatMap (txtF n)) ++ [93]) _ = _
  rw [List.cons_append]
  show (rfStep (out ++ [cur],d) 91).bind (rfRun ((brs t).flatMap (txtF n) ++ [93])) = _
  rw [rf_open out cur d hd]
  show rfRun ((brs t).flatMap (txtF n) ++ [93]) (out ++ [cur ++ [(d:Int)]],d + 1) = _
  rw [rfRun_app,rf_list (d + 1) (brs t) (fun b hb o c => rf_in n b (brs_lev h b hb) (by have:=brs_short h b hb;omega) (d + 1) (Nat.succ_pos d) o c)]
  show (rfStep (_,d + 1) 93).bind (rfRun []) = _
  rw [rf_close]
  show some (_,d) = _
  have e:t = rootOn (brs t):=(rootOn_brs h).symm
  congr 4
  rw [List.append_assoc]
  congr 1
  conv => rhs;rw [e]
  unfold rootOn
  simp only [List.map_cons,List.map_flatMap,List.map_map,List.singleton_append,Int.zero_add]
  congr 2
  funext b
  apply List.map_congr_left
  intro x _
  simp only [Function.comp_def]
  omega
theorem rf_top (n:Nat) (t:List Int) (h:LevP t) (hn:t.length ≤ n + 1) (out:List (List Int)):rfRun (txtF (n + 1) t) (out,0) = some (out ++ [t],0):=by
 show rfRun (91 :: ((brs t).flatMap (txtF n)) ++ [93]) _ = _
 rw [List.cons_append]
 show (rfStep (out,0) 91).bind (rfRun ((brs t).flatMap (txtF n) ++ [93])) = _
 show rfRun ((brs t).flatMap (txtF n) ++ [93]) (out ++ [[0]],1) = _
 rw [rfRun_app,rf_list 1 (brs t) (fun b hb o c => rf_in n b (brs_lev h b hb) (by have:=brs_short h b hb;omega) 1 (by decide) o c)]
 show (rfStep (_,0 + 1) 93).bind (rfRun []) = _
 rw [rf_close]
 show some (_,0) = _
 congr 4
 conv => rhs;rw [← rootOn_brs h]
 rfl
theorem rf_show (n:Nat):∀ (L:List (List Int)),(∀ t ∈ L,LevP t∧t.length ≤ n + 1)→∀ out,rfRun (L.flatMap (txtF (n + 1))) (out,0) = some (out ++ L,0)
 | [],_,out => by simp [rfRun]
 | t :: L,h,out => by
  rw [List.flatMap_cons,rfRun_app,rf_top n t (h t (by simp)).1 (h t (by simp)).2]
  show rfRun (L.flatMap (txtF (n + 1))) (out ++ [t],0) = _
  rw [rf_show n L (fun x hx => h x (by simp [hx])),List.append_assoc]
  rfl
inductive Lin:List Int→Nat→List UInt8→Prop
 | nil:Lin [] 0 []
 | opn {l d s}:Lin l d s→Lin (l ++ [(d:Int)]) (d + 1) (s ++ [91])
 | cls {l d s}:Lin l (d + 1) s→Lin l d (s ++ [93])
theorem Lin.inv {l:List Int} {d:Nat} {s:List UInt8} (h:Lin l d s):(l = []→d = 0∧s = [])∧∀ l' x,l = l' ++ [x]→(d:Int) ≤ x + 1:=by
 induction h with
 | nil => exact ⟨fun _ => ⟨rfl,rfl⟩,fun l' x e => by simp at e⟩
 | opn h ih =>
  refine ⟨fun e => by simp at e,fun l' x e => ?_⟩
  obtain ⟨_,e2⟩:=List.append_inj' e rfl
  simp only [List.cons.injEq,and_true] at e2
  omega
 | cls h ih => exact ⟨fun e => by have:=(ih.1 e).1;omega,fun l' x e => by have:=ih.2 l' x e;omega⟩
theorem Lin.unique {l:List Int} {d:Nat} {s:List UInt8} (h:Lin l d s):∀ {s':List UInt8},Lin l d s'→s = s':=by
 induction h with
 | nil => intro s' h';exact ((h'.inv.1 rfl).2).symm
 | @opn l d s h ih =>
  intro s' h'
  generalize hl:l ++ [(d:Int)] = l2 at h'
  generalize hd:d + 1 = d2 at h'
  cases h' with
  | nil => simp at hl
  | @opn l3 d3 s3 h3 =>
   obtain ⟨e1,_⟩:=List.append_inj' hl rfl
   obtain rfl:d = d3:=by omega
   subst e1
   rw [ih h3]
  | cls h3 =>
   have:=h3.inv.2 l d hl.symm
   omega
 | @cls l d s h ih =>
  intro s' h'
  cases h' with
  | nil => have:=h.inv.1 rfl;omega
  | @opn l3 d3 s3 h3 =>
   have:=h.inv.2 l3 d3 rfl
   omega
  | cls h3 => rw [ih h3]
theorem rfRun_lin:∀ (s:List UInt8) (st:List (List Int) × Nat) (s0:List UInt8),Lin st.1.flatten st.2 s0→(0 < st.2→0 < st.1.length)→∀ st',rfRun s st = some st'→Lin st'.1.flatten st'.2 (s0 ++ s)
 | [],st,s0,h,_,st',hs => by cases hs;simpa using h
 | c :: s,st,s0,h,hp,st',hs => by
  have hs:(rfStep st c).bind (rfRun s) = some st':=hs
  cases h1:rfStep st c with
  | none => rw [h1] at hs;cases hs
  | some y =>
   rw [h1] at hs
   have hs2:rfRun s y = some st':=hs
   have e:s0 ++ c :: s = (s0 ++ [c]) ++ s:=by simp
   rw [e]
   unfold rfStep at h1
   split at h1
   ·rename_i hc
    obtain rfl:c = 91:=UInt8.toNat_inj.1 hc
    split at h1
    ·rename_i hd
     cases h1
     refine rfRun_lin s _ (s0 ++ [91]) ?_ (fun _ => by simp) st' hs2
     rw [hd] at h
     have:=Lin.opn h
     simpa using this
    ·rename_i hd
     cases h1
     have hpos:=hp (by omega)
     refine rfRun_lin s _ (s0 ++ [91]) ?_ (fun _ => by simpa using hpos) st' hs2
     have:=Lin.opn h
     have e2:(st.1.set (st.1.length - 1) (st.1.getD (st.1.length - 1) [] ++ [(st.2:Int)])).flatten = st.1.flatten ++ [(st.2:Int)]:=by
      obtain ⟨L,x,hL⟩:∃ L x,st.1 = L ++ [x]:=⟨st.1.dropLast,st.1.getLast (by intro e;rw [e] at hpos;cases hpos),(List.dropLast_concat_getLast _).symm⟩
      rw [hL]
      simp
     show Lin _ (st.2 + 1) _
     rw [e2]
     exact this
   ·split at h1
    ·rename_i hc
     obtain rfl:y = (st.1,st.2 - 1):=(Option.some.inj h1).symm
     obtain rfl:c = 93:=UInt8.toNat_inj.1 hc.1
     refine rfRun_lin s (st.1,st.2 - 1) (s0 ++ [93]) ?_ (fun hq => hp (by have:0 < st.2 - 1:=hq;omega)) st' hs2
     have h2:Lin st.1.flatten (st.2 - 1 + 1) s0:=by rw [Nat.sub_add_cancel hc.2];exact h
     exact Lin.cls h2
    ·cases h1
theorem show_read {n:Nat} {s:List UInt8} {L:List (List Int)} (h:rfRun s ([],0) = some (L,0)) (hL:∀ t ∈ L,LevP t∧t.length ≤ n + 1):s = L.flatMap (txtF (n + 1)):=by
 have h1:=rfRun_lin s ([],0) [] Lin.nil (fun h => absurd h (by decide)) _ h
 have h2:=rfRun_lin (L.flatMap (txtF (n + 1))) ([],0) [] Lin.nil (fun h => absurd h (by decide)) _ (rf_show n L hL [])
 exact h1.unique h2
end Go.Proofs.Ytedgfkpfhonlpaa
namespace Go.Proofs.Ytedgfkpfhonlpaa
open Go.RowKit
theorem exists_not {l:List Nat}:∃ k,k ∉ l:=by
 have key:∀ (l:List Nat),∀ x ∈ l,x ≤ l.sum:=by
  intro l
  induction l with
  | nil => intro x hx;cases hx
  | cons y l ih =>
   intro x hx
   rw [List.sum_cons]
   rcases List.mem_cons.1 hx with rfl|hx
   ·omega
   ·have:=ih x hx;omega
 exact ⟨l.sum + 1,fun h => by have:=key l _ h;omega⟩
theorem exists_free (s:St):∃ k,Free s k:=by
 obtain ⟨k,hk⟩:=exists_not (l:=s.heap.map (·.1) ++ s.regs.flatMap (·.2.refs) ++ s.heap.flatMap (·.2.refs))
 simp only [List.mem_append,not_or] at hk
 obtain ⟨⟨h1,h2⟩,h3⟩:=hk
 refine ⟨k,?_,fun r av hr hm => h2 (List.mem_flatMap.2 ⟨_,look_all hr,hm⟩),fun q u hq hm => h3 (List.mem_flatMap.2 ⟨_,look_all hq,hm⟩)⟩
 cases e:look k s.heap with
 | none => rfl
 | some o => exact absurd (List.mem_map.2 ⟨_,look_all e,rfl⟩) h1
theorem AC.frz_id {key k:Nat} {xs:List (List D)} {x:AC} (h:key ∉ x.refs):x.frz key k xs = x:=by
 cases x with
 | own q n => simp only [AC.refs,List.mem_singleton] at h;simp only [AC.frz];rw [if_neg (fun e => h e.symm)]
 | view q i n => simp only [AC.refs,List.mem_singleton] at h;simp only [AC.frz];rw [if_neg (fun e => h e.symm)]
 | _ => rfl
theorem acs_frz_id {key k:Nat} {xs:List (List D)}:∀ {cs:List AC},key ∉ cs.flatMap AC.refs→cs.map (AC.frz key k xs) = cs
 | [],_ => rfl
 | c :: cs,h => by
  rw [List.flatMap_cons,List.mem_append,not_or] at h
  rw [List.map_cons,AC.frz_id h.1,acs_frz_id h.2]
theorem AV.frz_id {key k:Nat} {xs:List (List D)} {x:AV} (h:key ∉ x.refs):x.frz key k xs = x:=by
 cases x with
 | c x => simp only [AV.frz];rw [AC.frz_id h]
 | eptr => rfl
 | optr q i j => simp only [AV.refs,List.mem_singleton] at h;simp only [AV.frz];rw [if_neg (fun e => h e.symm)]
 | agg cs => simp only [AV.frz];rw [acs_frz_id h]
 | tup cs => simp only [AV.frz];rw [acs_frz_id h]
 | dead => rfl
theorem Obj.frz_id {key k:Nat} {xs:List (List D)} {o:Obj} (h:key ∉ o.refs):o.frz key k xs = o:=by
 cases o with
 | row => rfl
 | pin => rfl
 | lit k' css =>
  simp only [Obj.frz]
  congr 1
  have h:key ∉ css.flatMap (·.flatMap AC.refs):=h
  have:∀ css:List (List AC),key ∉ css.flatMap (·.flatMap AC.refs)→css.map (·.map (AC.frz key k xs)) = css:=by
   intro css
   induction css with
   | nil => intro _;rfl
   | cons c css ih =>
    intro h
    rw [List.flatMap_cons,List.mem_append,not_or] at h
    rw [List.map_cons,acs_frz_id h.1,ih h.2]
  exact this css h
section
variable {P:Program} {cfg:Cfg} {M:Nat→Prop} {ops:Array Oper} {s s':St} {w0:W0} {w:World} {Ok:Nat→Prop} {N:Nat} {σ:Asg} {a:Act} {fs:List Fr} {Q:Exit→St→Prop} {T:Tab P}
def valD:AV→Option D
 | .c (.val d) => some d
 | _ => Option.none
def devalB (cfg:Cfg) (ops:Array Oper) (o:Oper) (s:St):Option Tel :=
 match o.op with
 | .buildSlice t len parts => if dstOK cfg o = true∧awanted ops s.regs o = some true then
   o.dst.bind fun d => (cfg.sl t).bind fun i => if len = parts.size∧len * i.z.length ≤ 16777216 then (aparts s.regs 0 parts.toList).bind fun css => (rowsD i.z css).map fun r => ⟨⟨d,.c (.val (.sl i.z.length r.1)),[]⟩,opRefs s.regs o.op.operands.toList⟩ else Option.none
  else Option.none
 | .assign x => if dstOK cfg o = true∧awanted ops s.regs o = some true then
   o.dst.bind fun d => ((opv s.regs x).bind valD).map fun v => ⟨⟨d,.c (.val v),[]⟩,[]⟩
  else Option.none
 | _ => Option.none
theorem Does1.asg (C:CfgOK P cfg) {i:Nat} {o:Oper} (hi:ops[i]? = some o) {x:Operand} (hop:o.op = .assign x) (hd:dstOK cfg o = true) {d:Nat} (hdd:o.dst = some d) (hb:awanted ops s.regs o = some true) {v:D} (hv:opv s.regs x = some (.c (.val v))):Does1 P cfg ops i s ⟨⟨d,.c (.val v),[]⟩,[]⟩:=by
 refine ⟨o,hi,hdd,fun s' h1 h2 h3 w0 Ok σ a w K Q hS hK => ?_⟩
 have hw:awanted ops s'.regs o = some true:=by rw [awanted_congr h1,hb]
 have hov:opv s'.regs x = some (.c (.val v)):=by
  rw [← hv]
  cases x with
  | tmp t =>
   have:=h1 t (looks_operand (by rw [hop];simp [Op.operands]))
   simp only [opv,this]
  | _ => rfl
 have hst:astep cfg ops o s' = some (s'.add ⟨d,.c (.val v),[]⟩):=by
  unfold astep
  rw [if_pos hd,hw]
  simp only [Option.bind_some,if_true,hop,isMut,hdd,amut,hov]
  rfl
 have:=astep_wp C hS hst hK (Q:=Q)
 unfold wpOp
 simp only [hi]
 split
 ·rename_i hw2;rw [if_pos hw2] at this;exact .inl this
 ·rename_i hw2;rw [if_neg hw2] at this;exact this
theorem Does1.lit (C:CfgOK P cfg) {i:Nat} {o:Oper} (hi:ops[i]? = some o) {t:Tel} (h:devalB cfg ops o s = some t):Does1 P cfg ops i s t:=by
 unfold devalB at h
 split at h
 ·rename_i ty len parts hop
  split at h
  ·rename_i hc
   obtain ⟨d,hd,h⟩:=bind_some h
   obtain ⟨it,hit,h⟩:=bind_some h
   split at h
   ·rename_i hsz
    obtain ⟨css,hcss,h⟩:=bind_some h
    obtain ⟨⟨xs,b⟩,hr,rfl⟩:=map_some h
    refine ⟨o,hi,hd,fun s' h1 h2 h3 w0 Ok σ a w K Q hS hK => ?_⟩
    have hw:awanted ops s'.regs o = some true:=by rw [awanted_congr h1,hc.2]
    have hopl:o.op.operands.toList = parts.toList.map (·.2):=by rw [hop];rfl
    have hag:=agree_of (xs:=o.op.operands.toList) (fun x hx => hx) h1 h2
    rw [hopl] at hag
    have hcss':aparts s'.regs 0 parts.toList = some css:=by rw [aparts_congr hag,hcss]
    obtain ⟨q,hq⟩:=exists_free s'
    have hmk:mkObj it.z css = some (.row it.z.length xs b):=by unfold mkObj;rw [hr]
    have ha:anew cfg (fun k => look k s'.heap) s'.regs q o.op = some (.c (.own q len),[(q,.row it.z.length xs b)]):=by
     rw [hop]
     simp only [anew,hit,Option.bind_some]
     rw [if_pos hsz,hcss']
     simp only [Option.bind_some,hmk,Option.map_some]
    unfold wpOp
    simp only [hi,awanted_spec hS hw,if_true]
    left
    have hdN:d < cfg.N:=by have:=hc.1;rw [dstOK,hd] at this;simpa using this
    refine anew_doesF C hS (news:=[(q,.row it.z.length xs b)]) (av:=.c (.own q len)) ha (fun p ob hp => ?_) _ _ (fun v w' σ' hv hS' => ?_)
    ·have hp:(if q = p then some (Obj.row it.z.length xs b) else none) = some ob:=hp
     split at hp
     ·rename_i e;subst e;exact hq
     ·cases hp
    ·rw [hd]
     have hS1:=Sim.ins hS' hdN hv
     have hS2:=Sim.frz hS1 q
     refine hK σ' _ _ ?_
     have hlq:look q (⟨insR d (.c (.own q len)) s'.regs,[(q,Obj.row it.z.length xs b)] ++ s'.heap⟩:St).heap = some (.row it.z.length xs b):=by show look q ((q,Obj.row it.z.length xs b) :: s'.heap) = _;rw [look,if_pos rfl]
     have e:(⟨insR d (.c (.own q len)) s'.regs,[(q,Obj.row it.z.length xs b)] ++ s'.heap⟩:St).frz q = ⟨frzR q it.z.length xs (insR d (.c (.own q len)) s'.regs),frzH q it.z.length xs (drop q ([(q,Obj.row it.z.length xs b)] ++ s'.heap))⟩:=by
      unfold St.frz;rw [hlq]
     rw [e] at hS2
     refine hS2.forget (fun r av hr => ?_) (fun k o' ho' => ?_)
     ·have hr:look r (insR d (.c (.val (.sl it.z.length xs))) s'.regs) = some av:=hr
      rw [look_ins] at hr
      show look r (frzR q it.z.length xs (insR d (.c (.own q len)) s'.regs)) = _
      rw [look_frzR,look_ins]
      by_cases er:d = r
      ·rw [if_pos er] at hr ⊢
       cases hr
       show some (AV.c (if q = q then AC.val (.sl it.z.length xs) else AC.own q len)) = _
       rw [if_pos rfl]
      ·rw [if_neg er] at hr ⊢
       rw [hr]
       show some (av.frz q it.z.length xs) = _
       rw [AV.frz_id (hq.2.1 r av hr)]
     ·have ho':look k s'.heap = some o':=ho'
      show look k (frzH q it.z.length xs (drop q ((q,Obj.row it.z.length xs b) :: s'.heap))) = _
      have hkq:k ≠ q:=by rintro rfl;rw [hq.1] at ho';cases ho'
      rw [look_frzH,look_drop,if_neg hkq,look,if_neg (fun e => hkq e.symm),ho']
      show some (o'.frz q it.z.length xs) = _
      rw [Obj.frz_id (hq.2.2 k o' ho')]
   ·cases h
  ·cases h
 ·rename_i x hop
  split at h
  ·rename_i hc
   obtain ⟨d,hd,h⟩:=bind_some h
   obtain ⟨v,hv,rfl⟩:=map_some h
   obtain ⟨av,h1,h2⟩:=bind_some hv
   have:av = .c (.val v):=by
    unfold valD at h2
    split at h2
    ·cases h2;rfl
    ·cases h2
   subst this
   exact Does1.asg C hi hop hc.1 hd hc.2 h1
  ·cases h
 ·cases h
end
end Go.Proofs.Ytedgfkpfhonlpaa
namespace Go.Proofs.Ytedgfkpfhonlpaa
open Go.RowKit
def rowA:Obj→Option (List AC)
 | .lit _ [r] => some r
 | .row _ [r] _ => some (r.map .val)
 | _ => none
section
variable {P:Program} {cfg:Cfg} {M:Nat→Prop} {ops:Array Oper} {s s':St} {w0:W0} {w:World} {Ok:Nat→Prop} {N:Nat} {σ:Asg} {a:Act} {fs:List Fr} {Q:Exit→St→Prop} {T:Tab P} {H:List (Nat × Obj)}
theorem rdCs.toA:∀ {x:List D} {us:List Value},rdCs (Zn σ H w) w us x→relCs σ H w (x.map .val) us
 | [],us,h => List.eq_nil_of_length_eq_zero (by rw [h.len];rfl)
 | y :: x,us,h => by
  obtain ⟨u,us',rfl,h3,h4⟩:=h.cons_inv
  exact ⟨u,us',rfl,h3.one,h3,rdCs.toA h4⟩
theorem relCs.len:∀ {x:List AC} {us:List Value},relCs σ H w x us→us.length = x.length
 | [],_,h => by rw [show _ = [] from h];rfl
 | y :: x,_,⟨u,us',e,_,_,h⟩ => by rw [e,List.length_cons,List.length_cons,relCs.len h]
theorem Sim.rowA (h:Sim w0 Ok N σ s a w) {key:Nat} {o:Obj} (hk:look key s.heap = some o) {r:List AC} (hr:rowA o = some r) :
  o.len = 1∧0 < o.k∧∃ us,us.length = o.k∧Row w (slv (σ.g key) o.len (σ.cap key)) o.k o.len us (σ.g key)∧relCs σ s.heap w r us:=by
 unfold Go.Proofs.Ytedgfkpfhonlpaa.rowA at hr
 split at hr
 ·rename_i k r'
  cases hr
  obtain ⟨ds,hrow,hkp,hel⟩:=(h.rows key _ hk).row
  obtain ⟨c,d,e,hl,hc,hd⟩:=(show relRs σ s.heap w k [r] ds from hel)
  have hd:d = []:=hd
  subst hd
  rw [List.append_nil] at e
  subst e
  exact ⟨rfl,hkp,ds,hl,hrow,hc⟩
 ·rename_i k r' d
  cases hr
  obtain ⟨ds,hrow,hkp,hel⟩:=RowOK.rd h.ok1 h.rows h.disj hk
  obtain ⟨c,e,e1,hl,hcl,hc,he⟩:=hel.cons_inv
  have he:e = []:=by
   have h1:=hrow.1
   rw [e1,List.length_append,hcl] at h1
   simp only [List.length_cons,List.length_nil] at h1
   exact List.eq_nil_of_length_eq_zero (by omega)
  subst he
  rw [List.append_nil] at e1
  subst e1
  exact ⟨rfl,hkp,ds,hcl,hrow,hc.toA⟩
 ·cases hr
theorem ROps.cut (C:CfgOK P cfg) (T:Tab P) (n:Nat) {l:List Oper} {Q:St→Prop} {s1:St} (ha:Work (aopsT cfg T ops (l.take n) s) (some s1)) (h:ROps P cfg M ops (l.drop n) Q s1):ROps P cfg M ops l Q s:=by
 have ha:aopsT cfg T ops (l.take n) s = some s1:=ha
 have cut:∀ (l m:List Oper) (s:St),aopsT cfg T ops l s = some s1→ROps P cfg M ops m Q s1→ROps P cfg M ops (l ++ m) Q s:=by
  intro l
  induction l with
  | nil => intro m s h1 h2;simp only [aopsT,Option.some.injEq] at h1;subst h1;exact h2
  | cons o l ih =>
   intro m s h1 h2
   simp only [aopsT] at h1
   obtain ⟨s2,h3,h4⟩:=bind_some h1
   exact ROps.stepT C h3 (ih m s2 h4 h2)
 have:=cut _ _ s ha h
 rwa [List.take_append_drop] at this
theorem relCs.toD:∀ {x:List D} {us:List Value},relCs σ H w (x.map .val) us→rdCs (Zn σ H w) w us x
 | [],us,h => by rw [show us = [] from h];exact rdCs.nil
 | y :: x,_,⟨u,us',e,_,h2,h⟩ => by rw [e];exact rdCs.cons h2 (relCs.toD h)
structure AFnS (P:Program) (f:FuncId) (ds:List (List D)) (cs:List D):Prop where
 call:∀ args w,(callFunc f args).run P w = .ok (.enter f args) w
 fn:∀ (A:Nat→Prop) w vs,(∀ b,A b→b < w.heap.size)→relArgs A w ds vs→Calls P f vs.toArray w (fun e w' => ∃ us,e = .returned (.agg us.toArray)∧Below w.heap.size w w'∧rdCs (fun b => A b ∨ w.heap.size ≤ b) w' us cs)
def EndsS (cfg:Cfg) (fn:Func) (cs:List D) (e:Exit) (s:St):Prop :=
 (e = .normal ∨ e = .ret)∧∃ t ty key o z,fn.results = #[.cell t ty]∧look t s.regs = some (.optr key 0 0)∧look key s.heap = some o∧rowA o = some (cs.map .val)∧cfg.ty ty = some (z,true)∧z.length = cs.length
theorem AFnS.of_runs (C:CfgOK P cfg) {f:FuncId} {fn:Func} {c:Code} (hf:P.funcs[f]? = some fn) (hb:fn.body = some c) (hname:(fn.name == "runtime.NumGoroutine") = false) (hN:fn.ntmps = cfg.N) {ds:List (List D)} (hd:ds.length ≤ fn.ntmps) {cs:List D}
  (h:∀ M,Runs P cfg M c (EndsS cfg fn cs) ⟨argRegs 0 ds,[]⟩):AFnS P f ds cs:=by
 refine ⟨enters_of hf hname hb,fun A w vs hA hv => ?_⟩
 have hlen:=hv.len
 refine calls_of_wp hf hb ?_
 have hS:=start_sim (A:=A) (N:=cfg.N) (n:=fn.ntmps - vs.length) hv (by omega)
 refine h _ ⟨w,fun _ => False⟩ A _ _ w _ rfl (by simpa using hS) (fun e s' hE σ' a' w' hS' => ?_)
 obtain ⟨he,t,ty,key,o,z,hres,ht,hk,hr,hty,hzl⟩:=hE
 obtain ⟨zv,ti,d,t1,t2,t3,t4,t5,t6,t7,t8⟩:=C.ty ty z true hty
 obtain ⟨hlen1,hkp,us,hul,hrow,hus⟩:=hS'.rowA hk hr
 obtain ⟨_,b,hg,ep⟩:=hS'.regs t _ ht o hk
 rw [Nat.zero_mul,Nat.zero_add] at ep
 rw [hg] at hrow
 have hrd:=hus.toD
 have hcl:us.length = cs.length:=hrd.len
 have hrange:w'.rangeAt b 0 us:=fun q v hq => by rw [Nat.zero_add];exact hrow.cells q v hq
 have hi:(P.info? ty).map (·.size) = some us.length:=by rw [t1,hcl,← hzl,← t3];rfl
 have hload:(loadVar ty ⟨b,0,none⟩).run P w' = .ok (.agg us.toArray) w':=run_loadVar_mid w' b 0 ty us d hrange t6 t7 hi
 have ep':a'.tmps.getD t undef = .pointer (some ⟨b,0,none⟩):=ep
 have hrun:(results fn a'.tmps).run P w' = .ok (.agg us.toArray) w':=by
  unfold results
  rw [hres,Array.mapM_eq_mapM_toList]
  rw [Array.getD_eq_getD_getElem?] at ep'
  simp [ep',asAddr,hload]
 have hm:∀ b,Zn σ' s'.heap w' b→b < w'.heap.size→A b ∨ w.heap.size ≤ b:=fun b hb _ => by
  rcases hS'.ok2 b hb.2.1 with h1|h1
  ·exact .inl h1
  ·rcases h1 with h1|h1
   ·exact .inr h1
   ·exact h1.elim
 have hfin:a'.defers = []∧∃ v,(results fn a'.tmps).run P w' = .ok v w'∧∃ us,Ending.returned v = .returned (.agg us.toArray)∧Below w.heap.size w w'∧rdCs (fun b => A b ∨ w.heap.size ≤ b) w' us cs:=⟨hS'.defers,_,hrun,us,rfl,hS'.below.below,hrd.mono hm⟩
 rcases he with rfl|rfl <;> exact hfin
end
end Go.Proofs.Ytedgfkpfhonlpaa
namespace Go.Proofs.Ytedgfkpfhonlpaa
open Go.RowKit
def nxtH (h:Int):Int:=IntKind.u64.wrap (IntKind.u64.wrap (h * 6364136223846793005) + 1442695040888963407)
def nxtB (h:Int):Int:=wrap64 (bits BinOp.and IntKind.u64 (nxtH h / 8589934592) 16777215)
def nxtX (code:List Int) (i:Nat) (h:Int):Int:=if hi:i < code.length then wrap64 (nxtB h + code[i]) else nxtB h
def nxtF (code:List Int) (s:Nat × Int) (n:Int):Int × Nat × Int:=if n < 1 then (0,s) else ((nxtX code s.1 s.2).tmod n,if s.1 < code.length then s.1 + 1 else s.1,nxtH s.2)
theorem nxtB_bd (h:Int):0 ≤ nxtB h∧nxtB h ≤ 16777215:=by
 have h0:0 ≤ nxtH h∧nxtH h < 18446744073709551616:=by unfold nxtH IntKind.wrap;simp [IntKind.signed,IntKind.bits];omega
 have e:=bits_and_u64_nat (nxtH h / 8589934592).toNat 16777215 (by omega) (by omega)
 have e1:(((nxtH h / 8589934592).toNat:Nat):Int) = nxtH h / 8589934592:=by omega
 rw [e1] at e
 have hle:(nxtH h / 8589934592).toNat &&& 16777215 ≤ 16777215:=Nat.and_le_right
 unfold nxtB
 have e2:((16777215:Nat):Int) = 16777215:=rfl
 rw [e2] at e
 rw [e]
 unfold wrap64
 omega
theorem nxtX_bd {code:List Int} (hc:∀ c ∈ code,0 ≤ c∧c < 256) (i:Nat) (h:Int):0 ≤ nxtX code i h∧nxtX code i h ≤ 16777470:=by
 have h1:=nxtB_bd h
 unfold nxtX
 split
 ·rename_i hi
  have h2:=hc code[i] (List.getElem_mem _)
  unfold wrap64
  omega
 ·omega
theorem nxtF_bd {code:List Int} (hc:∀ c ∈ code,0 ≤ c∧c < 256) (s:Nat × Int) (n:Int):0 ≤ (nxtF code s n).1∧((nxtF code s n).1 < n ∨ (n < 1∧(nxtF code s n).1 = 0)):=by
 unfold nxtF
 split
 ·rename_i h;exact ⟨Int.le_refl _,.inr ⟨h,rfl⟩⟩
 ·rename_i h
  have h1:=nxtX_bd hc s.1 s.2
  show 0 ≤ (nxtX code s.1 s.2).tmod n∧((nxtX code s.1 s.2).tmod n < n ∨ _)
  rw [Int.tmod_eq_emod_of_nonneg h1.1]
  exact ⟨Int.emod_nonneg _ (by omega),.inl (Int.emod_lt_of_pos _ (by omega))⟩
def Byt (w:World) (b:Nat) (oa:Option Addr) (code:List Int):Prop:=(∀ c ∈ code,0 ≤ c∧c < 256)∧(code = [] ∨ ∃ b2 off,oa = some ⟨b2,off,none⟩∧b2 ≠ b∧∀ i (h:i < code.length),w.cell? ⟨b2,off + i,none⟩ = some (.int .u8 code[i]))
theorem row_set {w:World} {b k cap0:Nat} {ds:List Value} (hr:Row w (slv (some b) 1 cap0) k 1 ds (some b)) (j:Nat) (u:Value):Row (w.setCell ⟨b,j,none⟩ u) (slv (some b) 1 cap0) k 1 (ds.set j u) (some b):=(hr.store j u).1
theorem bel_set {w0:World} {w:World} {b:Nat} (h:Bel ⟨w0,fun c => c = b⟩ w) (j:Nat) (u:Value):Bel ⟨w0,fun c => c = b⟩ (w.setCell ⟨b,j,none⟩ u) :=
 ⟨h.os,h.tape,h.output,by simpa using h.size,fun k hk hn => (heap_setCell_other w ⟨b,j,none⟩ k u (fun e => hn e)).trans (h.block k hk hn)⟩
theorem row_drew {w:World} {b k cap0:Nat} {ds:List Value} (hr:Row w (slv (some b) 1 cap0) k 1 ds (some b)) (n:Nat):Row (w.drewN n) (slv (some b) 1 cap0) k 1 ds (some b):=hr
theorem bel_drew {w0:World} {w:World} {b:Nat} (h:Bel ⟨w0,fun c => c = b⟩ w) (n:Nat):Bel ⟨w0,fun c => c = b⟩ (w.drewN n):=⟨h.os,h.tape,h.output,h.size,h.block⟩
theorem bel_refl (w:World) (b:Nat):Bel ⟨w,fun c => c = b⟩ w:=⟨rfl,rfl,rfl,Nat.le_refl _,fun _ _ _ => rfl⟩
def RetN (w:World) (b:Nat) (oa:Option Addr) (cap cap0:Nat) (code:List Int) (r:Int × Nat × Int) (e:Ending) (w':World):Prop :=
 e = .returned (.int .i64 r.1)∧Row w' (slv (some b) 1 cap0) 3 1 [.slice oa code.length cap,.int .i64 r.2.1,.int .u64 r.2.2] (some b)∧Bel ⟨w,fun c => c = b⟩ w'
set_option maxRecDepth 100000 in
set_option maxHeartbeats 1000000 in
theorem c_l01Next (w:World) (b:Nat) (oa:Option Addr) (code:List Int) (cap cap0:Nat) (s:Nat × Int) (n:Int) (hr:Row w (slv (some b) 1 cap0) 3 1 [.slice oa code.length cap,.int .i64 s.1,.int .u64 s.2] (some b)) (hB:Byt w b oa code) (hn:In64 n) (hat:s.1 ≤ code.length) (hl:code.length ≤ 1000000000) :
  Calls Try.prog 39 #[.pointer (some ⟨b,0,none⟩),.int .i64 n] w (RetN w b oa cap cap0 code (nxtF code s n)):=by
 obtain ⟨i,h⟩:=s
 have c0:=hr.cells 0 _ rfl
 have c1:=hr.cells 1 _ rfl
 have c2:=hr.cells 2 _ rfl
 have f0:=hr.frozen 0
 have f1:=hr.frozen 1
 have f2:=hr.frozen 2
 have hlt:=hr.lt b rfl
 simp only at c0 c1 c2 hat
 have HR:=Lib.hid hr
 by_cases hn1:n < 1
 ·have hF:nxtF code (i,h) n = (0,i,h):=if_pos hn1
  rw [hF]
  clear hr hB hF
  go_enter Try.func39,Try.ntmps39
  go_wp2
  go_ret
  exact ⟨rfl,HR.out,bel_refl w b⟩
 ·have hF:nxtF code (i,h) n = ((nxtX code i h).tmod n,if i < code.length then i + 1 else i,nxtH h):=if_neg hn1
  rw [hF]
  by_cases ha:i < code.length
  ·obtain ⟨b2,off,e,hne,hg⟩:=hB.2.resolve_left (fun e => by rw [e] at ha;cases ha)
   have hgi:=hg i ha
   clear hg
   have hc:=hB.1 code[i] (List.getElem_mem _)
   have hX:nxtX code i h = wrap64 (nxtB h + code[i]):=dif_pos ha
   rw [hX,if_pos ha]
   obtain ⟨c,hce⟩:∃ c,c = code[i]:=⟨_,rfl⟩
   rw [← hce] at hgi hc ⊢
   have hwc:wrap64 c = c:=by unfold wrap64;omega
   subst e
   clear hr hB hce hF hX
   go_enter Try.func39,Try.ntmps39
   go_wp2
   go_quiet (fail)
   go_wp2
   go_quiet (fail)
   go_wp2
   go_ret
   exact ⟨rfl,row_set (row_drew (row_set HR.out 2 _) _) 1 _,bel_set (bel_drew (bel_set (bel_refl w b) 2 _) _) 1 _⟩
  ·have hX:nxtX code i h = nxtB h:=dif_neg ha
   rw [hX,if_neg ha]
   clear hr hB hF hX
   go_enter Try.func39,Try.ntmps39
   go_wp2
   go_quiet (fail)
   go_wp2
   go_ret
   exact ⟨rfl,row_drew (row_set HR.out 2 _) _,bel_drew (bel_set (bel_refl w b) 2 _) _⟩
def hshS (m:Int) (h c:Int):Int:=IntKind.u64.wrap (IntKind.u64.wrap (IntKind.u64.wrap (h * 1099511628211) + c) + m)
def hshF (m h0:Int) (code:List Int):Int:=code.foldl (hshS m) h0
theorem hshF_snoc (m h0:Int) (code:List Int) (k:Nat) (h:k < code.length):hshF m h0 (code.take (k + 1)) = hshS m (hshF m h0 (code.take k)) code[k]:=by
 unfold hshF
 rw [List.take_succ_eq_append_getElem h,List.foldl_append];rfl
def RetP (w:World) (oa:Option Addr) (cap:Nat) (code:List Int) (h:Int) (e:Ending) (w':World):Prop :=
 e = .returned (.pointer (some ⟨w.heap.size,0,none⟩))∧Row w' (slv (some w.heap.size) 1 1) 3 1 [.slice oa code.length cap,.int .i64 0,.int .u64 h] (some w.heap.size)∧Below w.heap.size w w'
theorem cell_lt {w:World} {b off:Nat} {v:Value} (h:w.cell? ⟨b,off,none⟩ = some v):b < w.heap.size:=by
 rcases Nat.lt_or_ge b w.heap.size with h1|h1
 ·exact h1
 ·rw [World.cell?] at h
  simp [Array.getElem?_eq_none h1] at h
theorem byt_below {w w':World} {n b off:Nat} {v:Value} (hb:Below n w w') (hlt:b < n) (h:w.cell? ⟨b,off,none⟩ = some v):w'.cell? ⟨b,off,none⟩ = some v:=by
 rw [World.cell?] at h ⊢
 rw [hb.block b hlt]
 exact h
set_option maxRecDepth 100000 in
set_option maxHeartbeats 2000000 in
theorem c_l01From (w:World) (oa:Option Addr) (code:List Int) (cap:Nat) (hB:Byt w w.heap.size oa code) (hcap:code.length ≤ cap) (hnil:oa = none→cap = 0) (hl:code.length ≤ 1000000000) :
  Calls Try.prog 36 #[.slice oa code.length cap] w (RetP w oa cap code (hshF 11 (5381 + code.length) (code.take 4096))):=by
 unfold RetP
 have HB:=Lib.hid hB
 obtain ⟨h0,hh0⟩:∃ h0,h0 = 5381 + (code.length:Int):=⟨_,rfl⟩
 rw [← hh0]
 have HH:=Lib.hid hh0
 clear hB hh0
 go_enter Try.func36,Try.ntmps36
 go_wp2
 go_loopw [4] (fun i wr => ∃ k:Nat,k ≤ code.length∧k ≤ 4096∧i = .int .i64 k∧Row wr (slv (some w.heap.size) 1 1) 3 1 [.slice oa code.length cap,.int .i64 0,.int .u64 (hshF 11 h0 (code.take k))] (some w.heap.size)∧Below w.heap.size w wr) (fun i _ => code.length - (intOf i).toNat)
 case atStart =>
  refine ⟨0,Nat.zero_le _,Nat.zero_le _,rfl,?_,?_⟩
  ·rw [List.take_zero]
   show Row _ _ 3 1 [_,_,.int .u64 h0] _
   rw [HH.out]
   exact Row.lit w #[.slice oa code.length cap,.int .i64 0,.int .u64 _] _ 3 1 (by decide) rfl
  ·exact (Below.refl _ _).alloc (Nat.le_refl _) _
 case round =>
  obtain ⟨k,hk,hk2,rfl,hrow,hbel⟩:=hrel
  have c0:=hrow.cells 0 _ rfl
  have c2:=hrow.cells 2 _ rfl
  have f2:=hrow.frozen 2
  have hlt:=hrow.lt _ rfl
  have HR:=Lib.hid hrow
  have HL:=Lib.hid hbel
  clear hrow hbel
  by_cases hlt1:k < code.length
  ·by_cases hlt2:k < 4096
   ·have hB:=HB.out
    obtain ⟨b2,off,e,hne,hg⟩:=hB.2.resolve_left (fun e => by rw [e] at hlt1;cases hlt1)
    have hgi:=byt_below HL.out (cell_lt (hg k hlt1)) (hg k hlt1)
    have hc:=hB.1 code[k] (List.getElem_mem _)
    have hst:=hshF_snoc 11 h0 code k hlt1
    obtain ⟨c,hce⟩:∃ c,c = code[k]:=⟨_,rfl⟩
    rw [← hce] at hgi hc hst
    subst e
    have HS:=Lib.hid hst
    clear hB hg hce hst
    obtain ⟨h,hh⟩:∃ h,h = hshF 11 h0 (code.take k):=⟨_,rfl⟩
    rw [← hh] at HR HS c2
    clear hh
    go_wp2_with fail
    go_region
    go_wp2_with fail
    go_roundw
    case rel =>
     refine ⟨k + 1,by omega,by omega,by go_num,?_,?_⟩
     ·rw [HS.out]
      exact row_set HR.out 2 _
     ·have hz:Below w.heap.size w (wr.setCell ⟨w.heap.size,2,none⟩ (.int .u64 (hshS 11 h c))):=HL.out.setCell (Nat.le_refl _) _
      exact ⟨hz.os,hz.tape,hz.output,hz.size,hz.block⟩
    case measure => simp [intOf];omega
   ·obtain rfl:k = 4096:=by omega
    go_wp2_with fail
    go_ret
    exact ⟨rfl,HR.out,HL.out⟩
  ·have e:code.take 4096 = code.take k:=by rw [List.take_of_length_le (by omega),List.take_of_length_le (by omega)]
   have HE:=Lib.hid e
   clear e
   go_wp2_with fail
   go_ret
   rw [HE.out]
   exact ⟨rfl,HR.out,HL.out⟩
end Go.Proofs.Ytedgfkpfhonlpaa
namespace Go.Proofs.Ytedgfkpfhonlpaa
open Go.RowKit
structure AFnP (P:Program) (f:FuncId) (ds:List (List D)) (r:List D):Prop where
 call:∀ args w,(callFunc f args).run P w = .ok (.enter f args) w
 fn:∀ (A:Nat→Prop) w vs,(∀ b,A b→b < w.heap.size)→relArgs A w ds vs →
  Calls P f vs.toArray w (fun e w' => ∃ b ds',e = .returned (.pointer (some ⟨b,0,none⟩))∧w.heap.size ≤ b∧Below w.heap.size w w'∧Row w' (slv (some b) 1 1) r.length 1 ds' (some b)∧0 < r.length∧rdCs (fun c => (A c ∨ w.heap.size ≤ c)∧c ≠ b) w' ds' r)
section
variable {P:Program} {cfg:Cfg} {M:Nat→Prop} {ops:Array Oper} {s s':St} {w0:W0} {w:World} {Ok:Nat→Prop} {N:Nat} {σ:Asg} {a:Act} {fs:List Fr} {Q:Exit→St→Prop} {T:Tab P} {H:List (Nat × Obj)}
theorem rdR_one {A:Nat→Prop} {w:World} {k:Nat} {ds:List Value} {r:List D} (h:rdR k A w ds [r]):rdCs A w ds r:=by
 obtain ⟨c,e,rfl,_,_,h1,h2⟩:=h.cons_inv
 have he:e = []:=List.eq_nil_of_length_eq_zero (by rw [h2.len];simp)
 rw [he,List.append_nil];exact h1
theorem ROps.callR (C:CfgOK P cfg) {o:Oper} {l:List Oper} {Q:St→Prop} (hg:o.guard = Option.none) {d:Nat} (hd:o.dst = some d) (hdN:d < cfg.N) {f:Operand} {args:Array Operand} {ts:Array TypeId} (ho:o.op = .call ⟨.value f,args,ts⟩) {g:FuncId} (hf:((opv s.regs f).bind avD).bind fnId = some g)
  {ds:List (List D)} (hds:aargs cfg (fun k => look k s.heap) s.regs args.toList ts.toList = some ds) (hs:opRefs s.regs args.toList = []) {r:List D} (hfn:AFnP P g ds r) (hfr:fresh s d = true) (h:∀ b,ROps P cfg M ops l Q ⟨insR d (.optr d 0 0) s.regs,insR d (.pin (some b) 1 r.length [r]) s.heap⟩):ROps P cfg M ops (o :: l) Q s:=by
 intro w0 Ok σ a w Q' hM hS hQ
 refine wpList_step (fun K hK => ?_)
 have hw:awanted ops s.regs o = some true:=by unfold awanted;rw [hg]
 rw [awanted_spec hS hw]
 simp only [if_true]
 obtain ⟨_,l2⟩:=aargs_rel C hS hds
 have hfv:a.eval f = .func (.func g) #[] #[]:=fnId_rel hS hf
 have hrun:(execOp a.eval o).run P w = .ok (.enter g (args.map a.eval)) w:=by
  unfold execOp
  rw [ho]
  simp [resolve,Deferred.ofValue,hfv,invoke,hfn.call]
 have hcall:=hfn.fn (Zn σ s.heap w) w (args.toList.map a.eval) (fun _ h => h.1) (l2 hs)
 unfold Oper.wp
 rw [hrun,Oper.upon_enter]
 have e:(args.toList.map a.eval).toArray = args.map a.eval:=by rw [← Array.toList_map,Array.toArray_toList]
 rw [← e]
 refine hcall.mono ?_
 rintro e w' ⟨b,ds',rfl,hb,hB,hrow,hk,hrd⟩
 have hfree:=fresh_free hfr
 obtain ⟨σ',k0,k1,k2,hZ,hS'⟩:=hS.new hB d (.row r.length [r] false) hfree (some b) 1 [] ds' hrow hk (fun σ' hok hF hg' hgo hZ hst => by
  show rdR r.length (Zn σ' _ w') w' ds' [r]
  refine rdR.single hk rfl (hrd.mono (fun c hc hlt => ?_))
  rcases hc.1 with h1|h1
  ·exact (hZ c h1).1
  ·refine ⟨hlt,by rw [hok];exact hS.ok1 c (.inl (Nat.le_trans hS.below.size h1)),fun q u hq e => ?_⟩
   simp only [look] at hq
   by_cases hqd:d = q
   ·subst hqd
    rw [hg'] at e
    cases e
    exact hc.2 rfl
   ·rw [if_neg hqd] at hq
    rw [hgo q (fun e => hqd e.symm)] at e
    have:=fp_lt hS hq c (fp_out e)
    omega) (fun c hc => by
   have hc:c ∈ [b] ++ []:=hc
   rw [List.append_nil,List.mem_singleton] at hc
   rw [hc];exact hb) (by simp)
 have hS2:=Sim.setObj hS' (key:=d) (u:=.row r.length [r] false) (ob:=.pin (some b) 1 r.length [r]) (by simp [look]) rfl rfl rfl (fun H' hm _ ds _ hel => by
  have hel:rdR r.length (Zn σ' _ w') w' ds [r]:=hel
  exact ⟨k1,k2,hel.mono (fun c hc _ => hm c hc)⟩)
 have hS3:Sim w0 Ok cfg.N σ' ⟨s.regs,insR d (.pin (some b) 1 r.length [r]) s.heap⟩ a w':=hS2.forget (fun _ _ h => h) (fun q o' ho' => by
  rw [look_ins] at ho'
  rw [look_ins]
  by_cases e:d = q
  ·rw [if_pos e] at ho' ⊢;exact ho'
  ·rw [if_neg e] at ho' ⊢
   simp only [look]
   rw [if_neg e];exact ho')
 show K (a.put o.dst _) _
 rw [hd]
 refine hK _ _ (h b w0 Ok σ' _ _ Q' hM (Sim.ins hS3 hdN ?_) hQ)
 intro o' ho'
 rw [look_ins,if_pos rfl] at ho'
 cases ho'
 exact ⟨Nat.zero_lt_one,b,k1,by simp⟩
end
def eU (c:Int):List D:=[.raw (.int .u8 c)]
def dCode (code:List Int):D:=.sl 1 (code.map eU)
def eCode (code:List Int):List D:=[dCode code]
def srcD (code:List Int) (s:Nat × Int):List D:=[.sl 1 (code.map eU),.int s.1,.raw (.int .u64 s.2)]
def Bytes (code:List Int):Prop:=∀ c ∈ code,0 ≤ c∧c < 256
theorem rdU {A:Nat→Prop} {w:World}:∀ {code:List Int} {ds:List Value} {d:Nat} {hk:0 < 1},rdL (RK 1 hk (RC d)) A w ds (code.map eU)→ds = code.map fun c => Value.int .u8 c
 | [],_,_,_,h => h
 | c :: code,ds,d,hk,⟨c1,d1,e,h1,h2⟩ => by
  obtain ⟨_,_,h3⟩:=h1
  have h3:=rdL_one1.1 h3
  have hc:c1 = [Value.int .u8 c]:=by
   have:rdV A w (c1.headD undef) (.raw (.int .u8 c)):=by
    obtain ⟨x,rfl⟩:∃ x,c1 = [x]:=by
     have:=(RC d).rd_len h3
     rw [RC_k] at this
     match c1,this with
     | [x],_ => exact ⟨x,rfl⟩
    exact ⟨d,h3⟩
   have hl:=(RC d).rd_len h3
   rw [RC_k] at hl
   match c1,hl,this with
   | [x],_,this => rw [show x = _ from (rdV_raw.1 this).1]
  rw [e,hc,rdU h2];rfl
theorem byt_of {A:Nat→Prop} {w:World} {v:Value} {code:List Int} {b:Nat} (hb:¬ A b) (hc:Bytes code) (h:rdV A w v (.sl 1 (code.map eU))):∃ oa cap,v = .slice oa code.length cap∧code.length ≤ cap∧cap ≤ maxLen∧(oa = none→cap = 0)∧Byt w b oa code:=by
 obtain ⟨oa,cap,ds,rfl,h1,h2,h3,h4,h5⟩:=rdV_sl.1 h
 rw [List.length_map] at h1 ⊢
 refine ⟨oa,cap,rfl,h1,h2,h3,hc,?_⟩
 obtain ⟨d,hk,h4⟩:=h4
 have e:=rdU h4
 rcases h5 with h5|⟨b2,off,h5,h6,h7⟩
 ·left
  rw [h5] at e
  cases code with
  | nil => rfl
  | cons => cases e
 ·by_cases hn:code = []
  ·exact .inl hn
  ·refine .inr ⟨b2,off,h5,fun e => hb (e ▸ h6),fun i hi => h7 i _ ?_⟩
   rw [e,List.getElem?_map,List.getElem?_eq_getElem hi];rfl
theorem nxtF_at {code:List Int} {s:Nat × Int} {n:Int} (h:s.1 ≤ code.length):(nxtF code s n).2.1 ≤ code.length:=by
 unfold nxtF
 split
 ·exact h
 ·show (if s.1 < code.length then s.1 + 1 else s.1) ≤ _
  split <;> omega
noncomputable def nxtG (code:List Int) (k:Nat) (xs:List (List D)) (post:List (List D)):Option (List Res × List (List D)):=by
 classical
 exact if h:∃ p:(Nat × Int) × Int,p.1.1 ≤ code.length∧k = 3∧xs = [srcD code p.1]∧post = [eI p.2] then some ([.val (.int (nxtF code h.choose.1 h.choose.2).1)],[srcD code (nxtF code h.choose.1 h.choose.2).2]) else none
noncomputable def nxtE (code:List Int):PinE:=⟨true,nxtG code⟩
theorem srcD_inj {code:List Int} {s s':Nat × Int} (h:srcD code s = srcD code s'):s = s':=by
 unfold srcD at h
 simp only [List.cons.injEq,D.int.injEq,D.raw.injEq,Value.int.injEq,true_and,and_true] at h
 exact Prod.ext (by omega) h.2
theorem nxtE_eq (code:List Int) (s:Nat × Int) (n:Int) (h:s.1 ≤ code.length):nxtG code 3 [srcD code s] [eI n] = some ([.val (.int (nxtF code s n).1)],[srcD code (nxtF code s n).2]):=by
 unfold nxtG
 have hx:∃ p:(Nat × Int) × Int,p.1.1 ≤ code.length∧3 = 3∧[srcD code s] = [srcD code p.1]∧[eI n] = [eI p.2]:=⟨(s,n),h,rfl,rfl,rfl⟩
 rw [dif_pos hx]
 obtain ⟨_,_,h2,h3⟩:=hx.choose_spec
 have e1:=srcD_inj (List.cons.inj h2).1
 have e2:n = hx.choose.2:=by
  exact D.int.inj (List.cons.inj (List.cons.inj h3).1).1
 rw [← e1,← e2]
section
variable {P:Program} {f:FuncId} {code:List Int} (hc:Bytes code) (eg:∀ args w,(callFunc f args).run P w = .ok (.enter f args) w)
 (hw:∀ (w:World) (b:Nat) (oa:Option Addr) (cap cap0:Nat) (s:Nat × Int) (n:Int),Row w (slv (some b) 1 cap0) 3 1 [.slice oa code.length cap,.int .i64 s.1,.int .u64 s.2] (some b)→Byt w b oa code→In64 n→s.1 ≤ code.length→code.length ≤ 1000000000 →
  Calls P f #[.pointer (some ⟨b,0,none⟩),.int .i64 n] w (RetN w b oa cap cap0 code (nxtF code s n)))
include hc eg hw
theorem nxt_ok (hl:code.length ≤ 1000000000) (k:Nat) (xs:List (List D)) (post:List (List D)) (x:List Res × List (List D)) (hx:(nxtE code).fn k xs post = some x):AEp P f (nxtE code).ptr k xs post (fun rs xs' => rs = x.1∧xs' = x.2):=by
 have hx:nxtG code k xs post = some x:=hx
 have key:∃ (s:Nat × Int) (n:Int),s.1 ≤ code.length∧k = 3∧xs = [srcD code s]∧post = [eI n]:=by
  unfold nxtG at hx
  split at hx
  ·rename_i h;obtain ⟨p,h1,h2,h3,h4⟩:=h;exact ⟨p.1,p.2,h1,h2,h3,h4⟩
  ·cases hx
 obtain ⟨s,n,h1,rfl,rfl,rfl⟩:=key
 rw [nxtE_eq code s n h1] at hx
 cases hx
 refine ⟨eg,fun A w us og cap0 ds hA hu hrow hk hrd hb => ?_⟩
 obtain ⟨b,hog⟩:=hrow.some_of (j:=0) Nat.zero_lt_one
 subst hog
 obtain ⟨cap1,hcv,_,_⟩:=hrow.slice
 have hb:=hb b rfl
 obtain ⟨u,us',rfl,hu1,hu2⟩:=hu
 have hu2:us' = []:=hu2
 subst hu2
 obtain ⟨rfl,hn⟩:=rdV_int.1 hu1
 have hrd:=rdR_one hrd
 obtain ⟨v0,ds1,rfl,hv0,hrd⟩:=hrd.cons_inv
 obtain ⟨v1,ds2,rfl,hv1,hrd⟩:=hrd.cons_inv
 obtain ⟨v2,ds3,rfl,hv2,hrd⟩:=hrd.cons_inv
 have hd3:ds3 = []:=List.eq_nil_of_length_eq_zero hrd.len
 subst hd3
 obtain ⟨rfl,hi⟩:=rdV_int.1 hv1
 obtain ⟨rfl,_⟩:=rdV_raw.1 hv2
 obtain ⟨oa,cap,rfl,hcap,hcm,hnil,hB⟩:=byt_of hb hc hv0
 refine (hw w b oa cap cap0 s n hrow hB hn h1 hl).mono ?_
 rintro e w' ⟨rfl,hrow',hbel⟩
 have hbd:=nxtF_bd hc s n
 have hin:In64 (nxtF code s n).1:=by unfold In64 at hn ⊢;omega
 have hat:=nxtF_at (n:=n) h1
 refine ⟨_,_,_,[.slice oa code.length cap,.int .i64 (nxtF code s n).2.1,.int .u64 (nxtF code s n).2.2],[.int .i64 (nxtF code s n).1],[],[],rfl,⟨rfl,rfl⟩,⟨hbel.os,hbel.tape,hbel.output,hbel.size,fun c hc hne => hbel.block c hc (fun e => hne (by show some b = some c;rw [show c = b from e]))⟩,rfl,List.nodup_nil,(by simp),?_,rfl,hrow',?_⟩
 ·exact ⟨_,[],[],[],[],[],rfl,rfl,rfl,rfl,⟨rdV_int.2 ⟨rfl,hin⟩,rfl,rfl⟩,rfl,rfl,rfl⟩
 ·refine rdR.single (by decide) rfl (.cons ((hv0.frame (fun c hA' hlt => hbel.block c hlt (fun e => hb (e ▸ hA')))).mono (fun c hA' _ => ⟨.inl hA',by simp,fun e => hb (by cases e;exact hA')⟩)) (.cons (rdV_int.2 ⟨rfl,?_⟩) (.cons (rdV_raw.2 ⟨rfl,rfl⟩) .nil)))
  unfold In64;omega
end
section
variable {P:Program} {f:FuncId} {code:List Int} (hc:Bytes code)
include hc
theorem frm_ok (eg:∀ args w,(callFunc f args).run P w = .ok (.enter f args) w) {xs:List (List D)} {us0:List Value} (hxs:∀ A w us,relArgs A w xs us→us = us0) {h:Int}
  (hw:∀ (w:World) (oa:Option Addr) (cap:Nat),Byt w w.heap.size oa code→code.length ≤ cap→(oa = none→cap = 0)→Calls P f (.slice oa code.length cap :: us0).toArray w (RetP w oa cap code h)) :
  AFnP P f (eCode code :: xs) (srcD code (0,h)):=by
 refine ⟨eg,fun A w vs hA hv => ?_⟩
 obtain ⟨v,us,rfl,hv1,hv2⟩:=hv
 obtain rfl:=hxs _ _ _ hv2
 have hv1:rdV A w v (.sl 1 (code.map eU)):=hv1
 obtain ⟨oa,cap,rfl,hcap,hcm,hnil,hB⟩:=byt_of (b:=w.heap.size) (fun h => Nat.lt_irrefl _ (hA _ h)) hc hv1
 refine (hw w oa cap hB hcap hnil).mono ?_
 rintro e w' ⟨rfl,hrow,hbel⟩
 refine ⟨_,_,rfl,Nat.le_refl _,hbel,hrow,(by show 0 < 3;omega),?_⟩
 refine .cons ((hv1.frame (fun c hA' hlt => hbel.block c hlt)).mono (fun c hA' _ => ⟨.inl hA',by have:=hA c hA';omega⟩)) (.cons (rdV_int.2 ⟨rfl,by unfold In64;omega⟩) (.cons (rdV_raw.2 ⟨rfl,rfl⟩) .nil))
end
theorem nxt_l01Next {code:List Int} (hc:Bytes code) (hl:code.length ≤ 1000000000) (k:Nat) (xs:List (List D)) (post:List (List D)) (x:List Res × List (List D)) (hx:(nxtE code).fn k xs post = some x):AEp Try.prog 39 (nxtE code).ptr k xs post (fun rs xs' => rs = x.1∧xs' = x.2) :=
 nxt_ok hc (enters_of Try.func39 rfl rfl) (fun w b oa cap cap0 s n h1 h2 h3 h4 h5 => c_l01Next w b oa code cap cap0 s n h1 h2 h3 h4 h5) hl k xs post x hx
def src0 (code:List Int):Nat × Int:=(0,hshF 11 (5381 + code.length) (code.take 4096))
theorem p_l01From {code:List Int} (hc:Bytes code) (hl:code.length ≤ 1000000000):AFnP Try.prog 36 [eCode code] (srcD code (src0 code)) :=
 frm_ok (xs:=[]) hc (enters_of Try.func36 rfl rfl) (us0:=[]) (fun _ _ _ h => h) (fun w oa cap h1 h2 h3 => c_l01From w oa code cap h1 h2 h3 hl)
end Go.Proofs.Ytedgfkpfhonlpaa
namespace Go.Proofs.Ytedgfkpfhonlpaa
open Go.RowKit
def sgnL:List ByteArray:=[⟨#[48]⟩,⟨#[49]⟩,⟨#[50]⟩,⟨#[55]⟩,⟨#[57]⟩,⟨#[45]⟩,⟨#[47]⟩,⟨#[32]⟩,⟨#[44]⟩,⟨#[59]⟩,⟨#[124]⟩,⟨#[58]⟩,⟨#[46]⟩,⟨#[43]⟩,⟨#[42]⟩,⟨#[120]⟩,⟨#[121]⟩,⟨#[104]⟩,⟨#[97]⟩,⟨#[40]⟩,⟨#[41]⟩,⟨#[10]⟩]
def damF (code:List Int) (s:Nat × Int) (z:ByteArray):ByteArray × (Nat × Int) :=
 let x:=nxtF code s 22
 let c:=sgnL.getD x.1.toNat ⟨#[]⟩
 if z.size = 0 then (c,x.2) else
  let k:=nxtF code x.2 z.size
  let m:=nxtF code k.2 3
  (if m.1 = 0 then z.extract 0 k.1.toNat ++ c ++ z.extract (k.1.toNat + 1) z.size else if m.1 = 1 then z.extract 0 k.1.toNat ++ z.extract (k.1.toNat + 1) z.size else z.extract 0 k.1.toNat ++ c ++ z.extract k.1.toNat z.size,m.2)
theorem sgn_size:∀ i,(sgnL.getD i ⟨#[]⟩).size ≤ 1:=by
 intro i
 rcases Nat.lt_or_ge i 22 with h|h
 ·have:∀ i,i < 22→(sgnL.getD i ⟨#[]⟩).size ≤ 1:=by decide
  exact this i h
 ·rw [List.getD_eq_getElem?_getD,List.getElem?_eq_none (by exact h)];decide
theorem dam_size (code:List Int) (s:Nat × Int) (z:ByteArray):(damF code s z).1.size ≤ 2 * z.size + 1:=by
 have h:=sgn_size (nxtF code s 22).1.toNat
 unfold damF
 simp only
 split
 ·show (sgnL.getD _ _).size ≤ _
  omega
 ·show (if _ then _ else if _ then _ else _:ByteArray).size ≤ _
  split
  ·simp only [ByteArray.size_append,ByteArray.size_extract];omega
  ·split
   ·simp only [ByteArray.size_append,ByteArray.size_extract];omega
   ·simp only [ByteArray.size_append,ByteArray.size_extract];omega
theorem dam_nil {code:List Int} {s:Nat × Int} {z:ByteArray} {i:Nat} {s1:Nat × Int} {c:ByteArray} (h1:((i:Int),s1) = nxtF code s 22) (hc:c = sgnL.getD i ⟨#[]⟩) (hz:z.size = 0):damF code s z = (c,s1):=by
 unfold damF
 rw [← h1,hc,if_pos hz];rfl
theorem dam_eq {code:List Int} {s:Nat × Int} {z:ByteArray} {i:Nat} {s1:Nat × Int} {c:ByteArray} {k:Nat} {s2:Nat × Int} {m:Int} {s3:Nat × Int} (h1:((i:Int),s1) = nxtF code s 22) (hc:c = sgnL.getD i ⟨#[]⟩) (hz:¬ z.size = 0)
  (h2:((k:Int),s2) = nxtF code s1 z.size) (h3:(m,s3) = nxtF code s2 3):damF code s z = (if m = 0 then z.extract 0 k ++ c ++ z.extract (k + 1) z.size else if m = 1 then z.extract 0 k ++ z.extract (k + 1) z.size else z.extract 0 k ++ c ++ z.extract k z.size,s3):=by
 unfold damF
 rw [← h1,hc,if_neg hz,← h2]
 simp only
 rw [← h3]
 rfl
set_option maxRecDepth 100000 in
set_option maxHeartbeats 4000000 in
theorem c_l01Damage (w:World) (b:Nat) (oa:Option Addr) (code:List Int) (cap cap0:Nat) (s:Nat × Int) (z:ByteArray) (hr:Row w (slv (some b) 1 cap0) 3 1 [.slice oa code.length cap,.int .i64 s.1,.int .u64 s.2] (some b)) (hB:Byt w b oa code) (hz:z.size ≤ 1000) (hat:s.1 ≤ code.length) (hl:code.length ≤ 1000000000) :
  Calls Try.prog 69 #[.pointer (some ⟨b,0,none⟩),.string z] w (fun e w' => e = .returned (.string (damF code s z).1)∧Row w' (slv (some b) 1 cap0) 3 1 [.slice oa code.length cap,.int .i64 (damF code s z).2.1,.int .u64 (damF code s z).2.2] (some b)∧Bel ⟨w,fun c => c = b⟩ w'):=by
 obtain ⟨wa,hwa⟩:∃ wa,wa = w.alloc (.cells #[.string ⟨#[48]⟩,.string ⟨#[49]⟩,.string ⟨#[50]⟩,.string ⟨#[55]⟩,.string ⟨#[57]⟩,.string ⟨#[45]⟩,.string ⟨#[47]⟩,.string ⟨#[32]⟩,.string ⟨#[44]⟩,.string ⟨#[59]⟩,.string ⟨#[124]⟩,.string ⟨#[58]⟩,.string ⟨#[46]⟩,.string ⟨#[43]⟩,.string ⟨#[42]⟩,.string ⟨#[120]⟩,.string ⟨#[121]⟩,.string ⟨#[104]⟩,.string ⟨#[97]⟩,.string ⟨#[40]⟩,.string ⟨#[41]⟩,.string ⟨#[10]⟩] 9):=⟨_,rfl⟩
 have hblt:=hr.lt b rfl
 have hra:Row wa (slv (some b) 1 cap0) 3 1 [.slice oa code.length cap,.int .i64 s.1,.int .u64 s.2] (some b):=by rw [hwa];exact hr.alloc _
 have hsa:wa.heap.size = w.heap.size + 1:=by rw [hwa];simp
 have hbela:Bel ⟨w,fun c => c = b⟩ wa:=by rw [hwa];exact ⟨rfl,rfl,rfl,by simp,fun k hk _ => Lib.alloc_old w _ k hk⟩
 have keepB:∀ (w1:World),Bel ⟨w,fun c => c = b⟩ w1→Byt w1 b oa code:=fun w1 h => by
  refine ⟨hB.1,hB.2.imp id ?_⟩
  rintro ⟨b2,off,e,hne,hg⟩
  refine ⟨b2,off,e,hne,fun i hi => ?_⟩
  have hg':=hg i hi
  have hlt2:=World.block_lt_of_cell? w _ hg'
  rw [World.cell?_of_block (h.block b2 hlt2 (fun e => hne e))]
  exact hg'
 have transB:∀ (w1 w2:World),Bel ⟨w,fun c => c = b⟩ w1→Bel ⟨w1,fun c => c = b⟩ w2→Bel ⟨w,fun c => c = b⟩ w2:=fun w1 w2 h g =>
  ⟨g.os.trans h.os,g.tape.trans h.tape,g.output.trans h.output,Nat.le_trans h.size g.size,fun k hk hn => (g.block k (Nat.lt_of_lt_of_le hk h.size) hn).trans (h.block k hk hn)⟩
 have hc1:=c_l01Next wa b oa code cap cap0 s 22 hra (keepB _ hbela) (by unfold In64;omega) hat hl
 have hx:=nxtF_bd hB.1 s 22
 have hat1:=nxtF_at (n:=22) hat
 have hsg:=sgn_size (nxtF code s 22).1.toNat
 obtain ⟨⟨zr,sr⟩,hres⟩:∃ p,p = damF code s z:=⟨_,rfl⟩
 rw [← hres]
 simp only
 have HR:=Lib.hid hres
 clear hres
 obtain ⟨⟨x,s1⟩,hxp⟩:∃ p,p = nxtF code s 22:=⟨_,rfl⟩
 rw [← hxp] at hc1 hx hat1 hsg
 simp only at hx hat1 hsg
 obtain ⟨i,rfl⟩:∃ i:Nat,x = i:=⟨x.toNat,by omega⟩
 have hi22:i < 22:=by omega
 have hload:∀ (w1:World),w1.heap[w.heap.size]? = wa.heap[w.heap.size]?→w1.cell? ⟨w.heap.size,i,none⟩ = some (.string (sgnL.getD i ⟨#[]⟩)):=by
  intro w1 h1
  have h2:wa.heap[w.heap.size]? = some (.cells #[.string ⟨#[48]⟩,.string ⟨#[49]⟩,.string ⟨#[50]⟩,.string ⟨#[55]⟩,.string ⟨#[57]⟩,.string ⟨#[45]⟩,.string ⟨#[47]⟩,.string ⟨#[32]⟩,.string ⟨#[44]⟩,.string ⟨#[59]⟩,.string ⟨#[124]⟩,.string ⟨#[58]⟩,.string ⟨#[46]⟩,.string ⟨#[43]⟩,.string ⟨#[42]⟩,.string ⟨#[120]⟩,.string ⟨#[121]⟩,.string ⟨#[104]⟩,.string ⟨#[97]⟩,.string ⟨#[40]⟩,.string ⟨#[41]⟩,.string ⟨#[10]⟩] 9 (0,0)):=by
   rw [hwa];exact heap_alloc_new w _
  rw [Lib.cell_of_heap (h1.trans h2)]
  have:∀ i,i < 22→(#[Value.string ⟨#[48]⟩,.string ⟨#[49]⟩,.string ⟨#[50]⟩,.string ⟨#[55]⟩,.string ⟨#[57]⟩,.string ⟨#[45]⟩,.string ⟨#[47]⟩,.string ⟨#[32]⟩,.string ⟨#[44]⟩,.string ⟨#[59]⟩,.string ⟨#[124]⟩,.string ⟨#[58]⟩,.string ⟨#[46]⟩,.string ⟨#[43]⟩,.string ⟨#[42]⟩,.string ⟨#[120]⟩,.string ⟨#[121]⟩,.string ⟨#[104]⟩,.string ⟨#[97]⟩,.string ⟨#[40]⟩,.string ⟨#[41]⟩,.string ⟨#[10]⟩])[i]? = some (Value.string (sgnL.getD i ⟨#[]⟩)):=by
   intro i hi
   match i,hi with
   | 0,_|1,_|2,_|3,_|4,_|5,_|6,_|7,_|8,_|9,_|10,_|11,_|12,_|13,_|14,_|15,_|16,_|17,_|18,_|19,_|20,_|21,_ => rfl
   | n + 22,h => omega
  exact this i hi22
 simp only [Int.toNat_natCast] at hsg
 obtain ⟨c,hcd⟩:∃ c,c = sgnL.getD i ⟨#[]⟩:=⟨_,rfl⟩
 rw [← hcd] at hsg
 rw [← hcd] at hload
 have HL:=Lib.hid hload
 have KB:=Lib.hid keepB
 have TB:=Lib.hid transB
 have HX:=Lib.hid hxp
 have HC:=Lib.hid hcd
 have hwsym:w.alloc (.cells #[.string ⟨#[48]⟩,.string ⟨#[49]⟩,.string ⟨#[50]⟩,.string ⟨#[55]⟩,.string ⟨#[57]⟩,.string ⟨#[45]⟩,.string ⟨#[47]⟩,.string ⟨#[32]⟩,.string ⟨#[44]⟩,.string ⟨#[59]⟩,.string ⟨#[124]⟩,.string ⟨#[58]⟩,.string ⟨#[46]⟩,.string ⟨#[43]⟩,.string ⟨#[42]⟩,.string ⟨#[120]⟩,.string ⟨#[121]⟩,.string ⟨#[104]⟩,.string ⟨#[97]⟩,.string ⟨#[40]⟩,.string ⟨#[41]⟩,.string ⟨#[10]⟩] 9) = wa:=hwa.symm
 clear hload keepB transB hxp hcd hwa
 go_enter Try.func69,Try.ntmps69
 go_wp2_with (go_at_call 39;refine hc1.mono ?_)
 rintro e w1 ⟨rfl,hr1,hb1⟩
 have hld:=HL.out _ (hb1.block w.heap.size (by show _ < wa.heap.size;omega) (by show ¬ _ = b;omega))
 have hbel1:=TB.out _ _ hbela hb1
 clear hc1 hra
 have hi0:(0:Int) ≤ (i:Int):=by omega
 have hi1:(i:Int) < 22:=by omega
 by_cases hz0:z.size = 0
 ·have bz:((z.size:Int) == 0) = true:=by simp [hz0]
  have hE:=HR.out.trans (dam_nil HX.out HC.out hz0)
  injection hE with e1 e2
  subst e1;subst e2
  go_wp2_with fail
  go_ret
  exact ⟨rfl,hr1,hbel1⟩
 have bz:((z.size:Int) == 0) = false:=by simp [hz0]
 have hc2:=c_l01Next w1 b oa code cap cap0 s1 z.size hr1 (KB.out _ hbel1) (by unfold In64;omega) hat1 hl
 have hkb:=nxtF_bd hB.1 s1 z.size
 have hat2:=nxtF_at (n:=(z.size:Int)) hat1
 obtain ⟨⟨kk,s2⟩,hkp⟩:∃ p,p = nxtF code s1 z.size:=⟨_,rfl⟩
 rw [← hkp] at hc2 hkb hat2
 simp only at hkb hat2
 obtain ⟨k,rfl⟩:∃ k:Nat,kk = k:=⟨kk.toNat,by omega⟩
 have hkz:k < z.size:=by omega
 have HKp:=Lib.hid hkp
 clear hkp hr1
 go_wp2_with (go_at_call 39;refine hc2.mono ?_)
 rintro e w2 ⟨rfl,hr2,hb2⟩
 have hbel2:=TB.out _ _ hbel1 hb2
 have hc3:=c_l01Next w2 b oa code cap cap0 s2 3 hr2 (KB.out _ hbel2) (by unfold In64;omega) hat2 hl
 obtain ⟨⟨m,s3⟩,hmp⟩:∃ p,p = nxtF code s2 3:=⟨_,rfl⟩
 rw [← hmp] at hc3
 have hE:=HR.out.trans (dam_eq HX.out HC.out hz0 HKp.out hmp)
 injection hE with e1 e2
 subst e2
 have HE:=Lib.hid e1
 clear hc2 hmp hr2 e1
 go_wp2_with (go_at_call 39;refine hc3.mono ?_)
 rintro e w3 ⟨rfl,hr3,hb3⟩
 have hbel3:=TB.out _ _ hbel2 hb3
 clear hc3
 have hw1:IntKind.i64.wrap ((k:Int) + 1) = (k:Int) + 1:=IntWalk.i64_in _ (by omega)
 have n0:(z.extract 0 k).size = k:=by rw [ByteArray.size_extract];omega
 have n1:(z.extract (k + 1) z.size).size ≤ z.size:=by rw [ByteArray.size_extract];omega
 have n2:(z.extract k z.size).size ≤ z.size:=by rw [ByteArray.size_extract];omega
 by_cases hm0:m = 0
 ·subst hm0
  have hzr:zr = z.extract 0 k ++ c ++ z.extract (k + 1) z.size:=by rw [HE.out,if_pos rfl]
  subst hzr
  go_wp2_with fail
  go_quiet (fail)
  go_wp2
  go_ret
  exact ⟨rfl,row_drew hr3 _,bel_drew hbel3 _⟩
 have bm0:(m == 0) = false:=by simpa using hm0
 by_cases hm1:m = 1
 ·subst hm1
  have hzr:zr = z.extract 0 k ++ z.extract (k + 1) z.size:=by rw [HE.out,if_neg hm0,if_pos rfl]
  subst hzr
  go_wp2_with fail
  go_quiet (fail)
  go_wp2
  go_ret
  exact ⟨rfl,row_drew hr3 _,bel_drew hbel3 _⟩
 ·have hzr:zr = z.extract 0 k ++ c ++ z.extract k z.size:=by rw [HE.out,if_neg hm0,if_neg hm1]
  subst hzr
  have bm1:(m == 1) = false:=by simpa using hm1
  go_wp2_with fail
  go_quiet (fail)
  go_wp2
  go_ret
  exact ⟨rfl,row_drew hr3 _,bel_drew hbel3 _⟩
end Go.Proofs.Ytedgfkpfhonlpaa
namespace Go.Proofs.Ytedgfkpfhonlpaa
open Go.RowKit
section
variable {α:Type}
theorem swpL_at (xs:List α) (i j:Nat) (hi:i < xs.length) (hj:j < xs.length) (k:Nat):(swpL xs i j)[k]? = if k = j then xs[i]? else if k = i then xs[j]? else xs[k]?:=by
 by_cases hk:k < xs.length
 ·rw [List.getElem?_eq_getElem (by rw [swpL_length];exact hk),swpL_get xs i j hi hj k hk]
  split
  ·rw [List.getElem?_eq_getElem hi]
  ·split
   ·rw [List.getElem?_eq_getElem hj]
   ·rw [List.getElem?_eq_getElem hk]
 ·rw [List.getElem?_eq_none (by rw [swpL_length];omega),if_neg (by omega),if_neg (by omega),List.getElem?_eq_none (by omega)]
structure Ix (f:Nat→Nat) (xs ys:List α):Prop where
 len:ys.length = xs.length
 at_:∀ k,ys[k]? = xs[f k]?
theorem Ix.refl {f:Nat→Nat} {xs:List α} (h:∀ k,f k = k):Ix f xs xs:=⟨rfl,fun k => by rw [h]⟩
theorem Ix.congr {f g:Nat→Nat} {xs ys:List α} (a:Ix f xs ys) (e:∀ k,g k = f k):Ix g xs ys:=⟨a.len,fun k => by rw [e];exact a.at_ k⟩
theorem Ix.comp {f g h:Nat→Nat} {xs ys zs:List α} (a:Ix f xs ys) (b:Ix g ys zs) (e:∀ k,h k = f (g k)):Ix h xs zs:=⟨b.len.trans a.len,fun k => by rw [b.at_,a.at_,e]⟩
theorem Ix.swp {f g:Nat→Nat} {xs ys:List α} (h:Ix f xs ys) {i j:Nat} (hi:i < xs.length) (hj:j < xs.length) (hg:∀ k,g k = f (if k = j then i else if k = i then j else k)):Ix g xs (swpL ys i j):=by
 refine ⟨by rw [swpL_length,h.len],fun k => ?_⟩
 rw [swpL_at ys i j (by rw [h.len];exact hi) (by rw [h.len];exact hj),hg]
 split
 ·exact h.at_ _
 ·split
  ·exact h.at_ _
  ·exact h.at_ _
theorem Ix.get {f:Nat→Nat} {xs ys:List α} (h:Ix f xs ys) {k:Nat} (hk:k < ys.length):∃ hf:f k < xs.length,ys[k] = xs[f k]:=by
 have:=h.at_ k
 rw [List.getElem?_eq_getElem hk] at this
 obtain ⟨hf,e⟩:=List.getElem?_eq_some_iff.1 this.symm
 exact ⟨hf,e.symm⟩
def swpI (a b n k:Nat):Nat:=if a ≤ k∧k < a + n then k - a + b else if b ≤ k∧k < b + n then k - b + a else k
def rotI (a m b k:Nat):Nat:=if a ≤ k∧k < a + (b - m) then k + (m - a) else if a + (b - m) ≤ k∧k < b then k - (b - m) else k
def RotS (a m b i j:Nat) (xs ys:List α):Prop:=∃ g,Ix g xs ys∧∀ k,rotI a m b k = g (rotI (m - i) m (m + j) k)
theorem RotS.done {a m b i:Nat} {xs ys zs:List α} (h:RotS a m b i i xs ys) (him:i ≤ m) (hz:Ix (swpI (m - i) m i) ys zs):Ix (rotI a m b) xs zs:=by
 obtain ⟨g,hg,e⟩:=h
 refine hg.comp hz fun k => ?_
 rw [e]
 congr 1
 unfold rotI swpI
 repeat' split
 all_goals omega
variable {c:α→α→Int}
def LeAt (c:α→α→Int) (xs:List α) (p q:Nat):Prop:=∀ (hp:p < xs.length) (hq:q < xs.length),c xs[p] xs[q] ≤ 0
theorem LeAt.trans (hc:Cmp c) {xs:List α} {p m q:Nat} (hm:m < xs.length) (h:LeAt c xs p m) (k:LeAt c xs m q):LeAt c xs p q:=fun hp hq => hc.trans _ _ _ (h hp hm) (k hm hq)
theorem SegOk.le {a b:Nat} {xs:List α} (h:SegOk c a b xs) {p q:Nat} (h1:a ≤ p) (h2:p < q) (h3:q < b):LeAt c xs p q:=fun hp hq => h p q hp hq h1 h2 h3
theorem SegOk.sub {a b a' b':Nat} {xs:List α} (h:SegOk c a b xs) (h1:a ≤ a') (h2:b' ≤ b):SegOk c a' b' xs:=fun p q hp hq k1 k2 k3 => h p q hp hq (by omega) k2 (by omega)
theorem LeAt.of {xs ys:List α} {p q p' q':Nat} (hp:ys[p]? = xs[p']?) (hq:ys[q]? = xs[q']?) (h:LeAt c xs p' q'):LeAt c ys p q:=by
 intro k1 k2
 rw [List.getElem?_eq_getElem k1] at hp
 rw [List.getElem?_eq_getElem k2] at hq
 obtain ⟨j1,e1⟩:=List.getElem?_eq_some_iff.1 hp.symm
 obtain ⟨j2,e2⟩:=List.getElem?_eq_some_iff.1 hq.symm
 rw [← e1,← e2]
 exact h j1 j2
theorem SegOk.perm {a b a' b':Nat} {xs ys:List α} (h:SegOk c a b xs) (k:PermIn a' b' xs ys) (hd:b ≤ a' ∨ b' ≤ a):SegOk c a b ys:=by
 intro p q hp hq h1 h2 h3
 exact LeAt.of (k.out p (by omega)) (k.out q (by omega)) (h.le h1 h2 h3) hp hq
end
end Go.Proofs.Ytedgfkpfhonlpaa
namespace Go.Proofs.Ytedgfkpfhonlpaa
open Go.RowKit
structure SymB (a m b mid n lo hi:Nat):Prop where
 alo:a ≤ lo
 lohi:lo ≤ hi
 him:hi ≤ m
 hn:hi + m ≤ n
 nlo:n ≤ lo + b
 n1:lo = a ∨ n - lo = b
 n2:hi = m ∨ n - hi = m
 mn:n = mid + m
end Go.Proofs.Ytedgfkpfhonlpaa
namespace Go.Proofs.Ytedgfkpfhonlpaa
open Go.RowKit
section
variable {α:Type} {c:α→α→Int} {xs ys zs:List α}
def Mul (s a:Nat):Prop:=∃ k,a = k * s
theorem Mul.zero (s:Nat):Mul s 0:=⟨0,by simp⟩
theorem Mul.add {s a:Nat} (h:Mul s a):Mul s (a + s):=by obtain ⟨k,rfl⟩:=h;exact ⟨k + 1,by rw [Nat.succ_mul]⟩
theorem Mul.half {s t a:Nat} (ht:t = 2 * s) (h:Mul t a):Mul s a:=by obtain ⟨k,rfl⟩:=h;exact ⟨k * 2,by rw [ht,Nat.mul_assoc]⟩
theorem Mul.gap {t x a:Nat} (h:Mul t x) (k:Mul t a) (hlt:x < a):x + t ≤ a:=by
 obtain ⟨i,rfl⟩:=h
 obtain ⟨j,rfl⟩:=k
 have hij:i < j:=Nat.lt_of_not_le fun h => by have:=Nat.mul_le_mul_right t h;omega
 have:=Nat.mul_le_mul_right t (show i + 1 ≤ j from hij)
 rw [Nat.succ_mul] at this
 exact this
def InB (c:α→α→Int) (s a:Nat) (xs:List α):Prop:=∀ x,Mul s x→x < a→SegOk c x (x + s) xs
theorem InB.zero (s:Nat):InB c s 0 xs:=fun _ _ h => absurd h (Nat.not_lt_zero _)
theorem InB.step {s a:Nat} (h:InB c s a xs) (ha:Mul s a) (hp:PermIn a (a + s) xs ys) (hs:SegOk c a (a + s) ys):InB c s (a + s) ys:=by
 intro x hx hlt
 by_cases e:x < a
 ·exact (h x hx e).perm hp (.inl (hx.gap ha e))
 ·by_cases e2:x = a
  ·subst e2;exact hs
  ·have:=ha.gap hx (by omega);omega
def Ph (c:α→α→Int) (s t a n:Nat) (xs:List α):Prop:=InB c t a xs∧∀ x,Mul s x→a ≤ x→SegOk c x (min (x + s) n) xs
theorem Ph.one {s t a n:Nat} (ht:t = 2 * s) (h:Ph c s t a n xs) (ha:Mul t a) (hm:a + s ≤ n):SegOk c a (a + s) xs:=by
 have:=h.2 a (ha.half ht) (Nat.le_refl _)
 rwa [Nat.min_eq_left hm] at this
theorem Ph.step {s t a n:Nat} (h:Ph c s t a n xs) (ha:Mul t a) (hp:PermIn a (a + t) xs ys) (hs:SegOk c a (a + t) ys):Ph c s t (a + t) n ys :=
 ⟨h.1.step ha hp hs,fun x hx hle => (h.2 x hx (by omega)).perm hp (.inr hle)⟩
end
end Go.Proofs.Ytedgfkpfhonlpaa
namespace Go.Proofs.Ytedgfkpfhonlpaa
open Go.RowKit
theorem a_l03Parts2 (t:List Int) (h:LevP t) (hl:t.length ≤ 1000):AFn Try.prog 40 [eL t] (· = [.own 1 ((brs t).map eL) true]) :=
 afn_L_oo (enters_of Try.func40 rfl rfl) (fun u w h' => c_spec_l03Parts u t w h' h (by omega))
end Go.Proofs.Ytedgfkpfhonlpaa
namespace Go.Proofs.Ytedgfkpfhonlpaa
open Go.RowKit
theorem EndsP.mk {P:Program} {cfg:Cfg} {M:Nat→Prop} {fn:Func} {Q0:List Res→List (List D)→Prop} {og:Option Nat} {cap k n:Nat} {e:Exit} {s:St} {rs:List Res} {ks:List Nat} {xs':List (List D)} (he:e = .normal ∨ e = .ret) {rvs:List ResultVar} {ts:List TypeId} (h1:fn.results.toList = rvs) (h2:fn.resultTypes.toList = ts)
  (h:aresults cfg s rvs ts = some (rs,ks)) (hk:ks.Nodup) (hz:0 ∉ ks) (hl:look 0 s.heap = some (.pin og cap k xs')) (hq:xs'.length = n∧Q0 rs xs'):outK P cfg M [] (EndsP cfg fn Q0 og cap k n) e s:=⟨he,rs,ks,xs',by rw [h1,h2];exact h,hk,hz,hl,hq.1,hq.2⟩
theorem srcD_len (code:List Int) (s:Nat × Int):(srcD code s).length = 3:=rfl
noncomputable def drwG (code:List Int) (F:(Nat × Int)→List (List D)→Option (List Res × (Nat × Int))) (k:Nat) (xs:List (List D)) (post:List (List D)):Option (List Res × List (List D)):=by
 classical
 exact if h:∃ s:Nat × Int,s.1 ≤ code.length∧k = 3∧xs = [srcD code s] then (F h.choose post).map (fun p => (p.1,[srcD code p.2])) else none
noncomputable def drwE (code:List Int) (F:(Nat × Int)→List (List D)→Option (List Res × (Nat × Int))):PinE:=⟨true,drwG code F⟩
theorem drwG_eq {code:List Int} {F:(Nat × Int)→List (List D)→Option (List Res × (Nat × Int))} {s:Nat × Int} (h:s.1 ≤ code.length) {post:List (List D)}:drwG code F 3 [srcD code s] post = (F s post).map (fun p => (p.1,[srcD code p.2])):=by
 unfold drwG
 have hx:∃ s':Nat × Int,s'.1 ≤ code.length∧3 = 3∧[srcD code s] = [srcD code s']:=⟨s,h,rfl,rfl⟩
 rw [dif_pos hx]
 obtain ⟨_,_,h2⟩:=hx.choose_spec
 rw [← srcD_inj (List.cons.inj h2).1]
def DrawsE (P:Program) (f:FuncId) (code:List Int) (F:(Nat × Int)→List (List D)→Option (List Res × (Nat × Int))):Prop :=
 ∀ s post rs s',s.1 ≤ code.length→F s post = some (rs,s')→AEp P f true 3 [srcD code s] post (fun r x => r = rs∧x = [srcD code s'])
theorem DrawsE.ok {P:Program} {f:FuncId} {code:List Int} {F:(Nat × Int)→List (List D)→Option (List Res × (Nat × Int))} (H:DrawsE P f code F) (k:Nat) (xs:List (List D)) (post:List (List D)) (x:List Res × List (List D)) (hx:(drwE code F).fn k xs post = some x):AEp P f (drwE code F).ptr k xs post (fun rs xs' => rs = x.1∧xs' = x.2):=by
 have hx:drwG code F k xs post = some x:=hx
 unfold drwG at hx
 split at hx
 ·rename_i h
  obtain ⟨h1,h2,h3⟩:=h.choose_spec
  obtain ⟨p,hp,e⟩:=Option.map_eq_some_iff.1 hx
  subst h2
  rw [h3,← e]
  exact H _ _ _ _ h1 hp
 ·cases hx
def drw1 (G:(Nat × Int)→Int→List Res × (Nat × Int)) (s:Nat × Int):List (List D)→Option (List Res × (Nat × Int))
 | [[.int m]] => if -1000 ≤ m∧m ≤ 1000 then some (G s m) else none
 | _ => none
theorem drw1_eq {code:List Int} {G:(Nat × Int)→Int→List Res × (Nat × Int)} {s:Nat × Int} (h:s.1 ≤ code.length) {m:Int} (hm:-1000 ≤ m∧m ≤ 1000):drwG code (drw1 G) 3 [srcD code s] [[.int m]] = some ((G s m).1,[srcD code (G s m).2]):=by
 rw [drwG_eq h]
 show Option.map _ (if -1000 ≤ m∧m ≤ 1000 then some (G s m) else none) = _
 rw [if_pos hm];rfl
theorem drw1_of {P:Program} {f:FuncId} {code:List Int} {G:(Nat × Int)→Int→List Res × (Nat × Int)} (h:∀ s m,s.1 ≤ code.length→-1000 ≤ m→m ≤ 1000→AEp P f true 3 [srcD code s] [[.int m]] (fun r x => r = (G s m).1∧x = [srcD code (G s m).2])):DrawsE P f code (drw1 G):=by
 intro s post rs s' hs hp
 unfold drw1 at hp
 split at hp
 ·rename_i m
  split at hp
  ·rename_i hm
   have e:=Option.some.inj hp
   have e1:rs = (G s m).1:=by rw [e]
   have e2:s' = (G s m).2:=by rw [e]
   subst e1;subst e2
   exact h s m hs hm.1 hm.2
  ·cases hp
 ·cases hp
def growD (code:List Int):Nat→(Nat × Int)→List Int→List Int × (Nat × Int)
 | 0,s,t => (t,s)
 | k + 1,s,t => growD code k (nxtF code s (t.getLastD 0 + 1)).2 (t ++ [1 + (nxtF code s (t.getLastD 0 + 1)).1])
def drawF (code:List Int) (s:Nat × Int) (m:Int):List Int × (Nat × Int):=growD code (nxtF code s m).1.toNat (nxtF code s m).2 [0]
structure TOk (n:Nat) (t:List Int):Prop where
 pos:t ≠ []
 lev:LevP t
 len:t.length ≤ n
 bd:∀ x ∈ t,0 ≤ x∧x < t.length
theorem getLastD_mem {t:List Int} (h:t ≠ []):t.getLastD 0 ∈ t:=by
 cases t with
 | nil => exact absurd rfl h
 | cons a t => rw [List.getLastD_cons];exact (by cases t <;> simp [List.getLastD])
theorem getLastD_getD {t:List Int} (h:t ≠ []):t.getLastD 0 = t.getD (t.length - 1) 0:=by
 rw [List.getD_eq_getElem?_getD,← List.getLast?_eq_getElem?]
 cases t with
 | nil => exact absurd rfl h
 | cons a t => rw [List.getLast?_cons,List.getLastD_cons,← List.getLastD_eq_getLast?];rfl
theorem growD_ok {code:List Int} (hc:Bytes code):∀ (k:Nat) {s:Nat × Int} {t:List Int} {n:Nat},TOk n t→s.1 ≤ code.length→TOk (n + k) (growD code k s t).1∧(growD code k s t).2.1 ≤ code.length
 | 0,_,_,_,h,hs => ⟨h,hs⟩
 | k + 1,s,t,n,h,hs => by
  have hl:=h.bd _ (getLastD_mem h.pos)
  have hb:=nxtF_bd hc s (t.getLastD 0 + 1)
  have h1:TOk (n + 1) (t ++ [1 + (nxtF code s (t.getLastD 0 + 1)).1]):=⟨by simp,h.lev.snoc (by omega) (by rw [← getLastD_getD h.pos];omega),by have:=h.len;simp;omega,fun x hx => by
   rw [List.length_append,List.length_singleton]
   rcases List.mem_append.1 hx with hx|hx
   ·have:=h.bd x hx;omega
   ·rw [List.mem_singleton] at hx;subst hx;omega⟩
  have:=growD_ok hc k h1 (nxtF_at (n:=t.getLastD 0 + 1) hs)
  rw [show n + (k + 1) = n + 1 + k by omega]
  exact this
theorem drawF_ok {code:List Int} (hc:Bytes code) {s:Nat × Int} {m:Int} (hs:s.1 ≤ code.length):TOk (1 + m.toNat) (drawF code s m).1∧(drawF code s m).2.1 ≤ code.length:=by
 have hb:=nxtF_bd hc s m
 have h:=growD_ok hc (nxtF code s m).1.toNat (s:=(nxtF code s m).2) (t:=[0]) (n:=1) ⟨by simp,by decide,by simp,by simp⟩ (nxtF_at hs)
 exact ⟨⟨h.1.pos,h.1.lev,Nat.le_trans h.1.len (by omega),h.1.bd⟩,h.2⟩
theorem drawF_len {code:List Int} (hc:Bytes code) {s:Nat × Int} {m:Int} (hs:s.1 ≤ code.length) (hm:1 ≤ m):(drawF code s m).1.length ≤ m.toNat:=by
 have hb:=nxtF_bd hc s m
 have h:=growD_ok hc (nxtF code s m).1.toNat (s:=(nxtF code s m).2) (t:=[0]) (n:=1) ⟨by simp,by decide,by simp,by simp⟩ (nxtF_at hs)
 exact Nat.le_trans h.1.len (by omega)
def drawG (code:List Int) (s:Nat × Int) (m:Int):List Res × (Nat × Int):=([.own 1 ((drawF code s m).1.map eI) true],(drawF code s m).2)
set_option maxRecDepth 20000 in
set_option maxHeartbeats 16000000 in
theorem p_l03Draw {code:List Int} (hc:Bytes code) (hl:code.length ≤ 1000000000):DrawsE Try.prog 71 code (drw1 (drawG code)):=by
 refine drw1_of fun s m hs hm1 hm2 => ?_
 have hpin:=nxt_l01Next hc hl
 have hdr:=nxtE_eq code s m hs
 have hbd:=nxtF_bd hc s m
 have hat:=nxtF_at (n:=m) hs
 unfold drawG drawF
 obtain ⟨⟨kk,s1⟩,hp⟩:∃ p,p = nxtF code s m:=⟨_,rfl⟩
 rw [← hp] at hdr hbd hat ⊢
 simp only at hdr hbd hat ⊢
 obtain ⟨k,rfl⟩:∃ k:Nat,kk = k:=⟨kk.toNat,by omega⟩
 rw [Int.toNat_natCast]
 have hk:k ≤ 1000:=by omega
 simp only [eI] at hdr
 refine AEp.of_runs (cfg_ok 29) Try.func71 rfl rfl rfl (fun _ => rfl) (by simp only [List.length_cons,List.length_nil];decide) ?_
 have hres:Try.f71.results.toList = [.tmp 4]:=rfl
 have hrts:Try.f71.resultTypes.toList = [24]:=rfl
 simp only [List.length_cons,List.length_nil,ownArg,if_true,argRegs,argAV1,eL,eI,eLL,eB,Nat.zero_add,Nat.reduceAdd]
 intro M og cap
 refine RunK.of ?_
 repeat' (first|with_reducible (first|refine Q1 ?_|refine Q2 ?_|refine Q3 ?_|refine Q4 ?_|refine Q5 ?_|refine Q6 ?_|refine Q7 ?_|refine Q8 ?_|refine Q9 ?_|refine Qa ?_|refine Qb ?_|refine Qc ?_|refine Qd ?_|refine Qe ?_|refine Qf ?_)|((with_reducible refine Qo ?_ ?_);focus rfl)|((with_reducible first|refine QT 7 (l:=?_) ?_ ?_|refine QF 7 (l:=?_) ?_ ?_);rotate_left 1;focus (simp only [Zu,Nat.reduceSub,Nat.reduceBEq];with_reducible rfl))|((with_reducible first|refine QS (cfg_ok 29) (Tab.none.pin 39 (nxtE code) hpin) (s':=?_) ?_ ?_|refine QC (b:=?_) ?_ ?_);rotate_left 1;focus ((with_reducible refine QW ?_);simp only [Zg,seval,if_true,if_false,reduceCtorEq,Nat.reduceEqDiff,hdr,nxtE];with_reducible rfl)))
 refine RunK.loop (β:=Nat × (Nat × Int) × List Int) (γ:=List Int × (Nat × Int)) (fun x => ⟨[(0,.optr 0 0 0),(5,.c (.own 5 x.2.2.length)),(6,.c (.val (.int x.1)))],[(0,.pin og cap 3 [srcD code x.2.1]),(5,.row 1 (x.2.2.map eI) true)]⟩)
  (fun x => x.1 ≤ k∧x.2.1.1 ≤ code.length∧TOk (1 + (k - x.1)) x.2.2∧growD code x.1 x.2.1 x.2.2 = growD code k s1 [0]) (fun x => x.1)
  (fun z => ⟨[(0,.optr 0 0 0),(5,.c (.own 5 z.1.length))],[(0,.pin og cap 3 [srcD code z.2]),(5,.row 1 (z.1.map eI) true)]⟩) (fun z => z = growD code k s1 [0]) (k,s1,[0]) ⟨Nat.le_refl _,hat,⟨by simp,by show LevP [0];decide,by simp,by simp⟩,rfl⟩ ?_ ?_ ?_
 ·(repeat' (first|with_reducible refine Qn|((with_reducible refine Qr ?_ ?_);focus (first|with_reducible rfl|(simp only [Zz,Nat.reduceBEq];done)|rfl))|((with_reducible refine Qj (o':=?_) ?_ ?_ ?_);rotate_left 1;focus rfl)|((with_reducible refine Qw ?_ ?_);(focus (first|with_reducible rfl|(simp only [Zv];done)));focus (first|exact id|exact (fun h => nomatch h)|exact (fun _ => rfl)))))
  all_goals first|exact ⟨rfl,rfl⟩|exact ⟨rfl,rfl,id⟩|exact ⟨rfl,rfl,rfl,rfl⟩
 ·rintro ⟨j,s,t⟩ ⟨hj,hs,ht,hgr⟩
  simp only at hj hs ht hgr
  by_cases h0:0 < j
  ·obtain ⟨j,rfl⟩:∃ i,j = i + 1:=⟨j - 1,by omega⟩
   have i1:(((j + 1:Nat):Int) > 0) = True:=eq_true (by omega)
   have hlb:=ht.bd _ (getLastD_mem ht.pos)
   have htl:=ht.len
   have htp:0 < t.length:=List.length_pos_iff.2 ht.pos
   have hdr:=nxtE_eq code s (t.getLastD 0 + 1) hs
   have hbd:=nxtF_bd hc s (t.getLastD 0 + 1)
   have hat:=nxtF_at (n:=t.getLastD 0 + 1) hs
   have hgr:growD code j (nxtF code s (t.getLastD 0 + 1)).2 (t ++ [1 + (nxtF code s (t.getLastD 0 + 1)).1]) = growD code k s1 [0]:=hgr
   have hnext:=(growD_ok hc 1 ht hs).1
   have hnext:TOk (1 + (k - (j + 1)) + 1) (t ++ [1 + (nxtF code s (t.getLastD 0 + 1)).1]):=hnext
   obtain ⟨⟨x,s2⟩,hp⟩:∃ p,p = nxtF code s (t.getLastD 0 + 1):=⟨_,rfl⟩
   rw [← hp] at hdr hbd hat hgr hnext
   simp only at hdr hbd hat hgr hnext
   simp only [eI] at hdr
   have hlm:(t.map eI).length = t.length:=List.length_map _
   have i2:((0:Int) ≤ (t.length:Int) - 1) = True:=eq_true (by omega)
   have i3:((t.length:Int) - 1 < (t.length:Int)) = True:=eq_true (by omega)
   have w1:w64 ((t.length:Int) - 1) = (t.length:Int) - 1:=w64_eq (by omega)
   have w2:w64 (t.getLastD 0 + 1) = t.getLastD 0 + 1:=w64_eq (by omega)
   have w3:w64 (1 + x) = 1 + x:=w64_eq (by omega)
   have w4:w64 (((j + 1:Nat):Int) - 1) = j:=by rw [w64_eq (by omega)];omega
   have hg:(t.map eI)[((t.length:Int) - 1).toNat]? = some [.int (t.getLastD 0)]:=by
    have e:((t.length:Int) - 1).toNat = t.length - 1:=by omega
    rw [e,List.getElem?_map,← List.getLast?_eq_getElem?]
    cases t with
    | nil => exact absurd rfl ht.pos
    | cons a t => rw [List.getLast?_cons,List.getLastD_cons,← List.getLastD_eq_getLast?];rfl
   have q1:=big_le (n:=t.length + 1) (by omega)
   have q2:=big_mul (n:=t.length + 1) (c:=8) (by omega) (by omega)
   repeat' (first|with_reducible (first|refine Q1 ?_|refine Q2 ?_|refine Q3 ?_|refine Q4 ?_|refine Q5 ?_|refine Q6 ?_|refine Q7 ?_|refine Q8 ?_|refine Q9 ?_|refine Qa ?_|refine Qb ?_|refine Qc ?_|refine Qd ?_|refine Qe ?_|refine Qf ?_)|((with_reducible refine Qo ?_ ?_);focus rfl)|((with_reducible first|refine QT 7 (l:=?_) ?_ ?_|refine QF 7 (l:=?_) ?_ ?_);rotate_left 1;focus (simp only [Zu,Nat.reduceSub,Nat.reduceBEq];with_reducible rfl))|((with_reducible first|refine QS (cfg_ok 29) (Tab.none.pin 39 (nxtE code) hpin) (s':=?_) ?_ ?_|refine QC (b:=?_) ?_ ?_);rotate_left 1;focus ((with_reducible refine QW ?_);simp only [Zg,seval,if_true,if_false,reduceCtorEq,Nat.reduceEqDiff,hdr,nxtE,i1,i2,i3,w1,w2,w3,w4,hg,hlm,q1,q2];with_reducible rfl)))
   refine roundK.on (j,s2,t ++ [1 + x]) ⟨⟨by omega,hat,by rw [show 1 + (k - j) = 1 + (k - (j + 1)) + 1 by omega];exact hnext,hgr⟩,by simp⟩ ?_
   (repeat' (first|with_reducible refine Qn|((with_reducible refine Qr ?_ ?_);focus (first|with_reducible rfl|(simp only [Zz,Nat.reduceBEq,List.map_append,List.map_cons,List.map_nil,List.length_append,List.length_singleton,eI];done)|rfl))|((with_reducible refine Qj (o':=?_) ?_ ?_ ?_);rotate_left 1;focus rfl)|((with_reducible refine Qw ?_ ?_);(focus (first|with_reducible rfl|(simp only [Zv,List.map_append,List.map_cons,List.map_nil,List.length_append,List.length_singleton,eI];done)));focus (first|exact id|exact (fun h => nomatch h)|exact (fun _ => rfl)))))
   all_goals first|exact ⟨rfl,rfl⟩|exact ⟨rfl,rfl,id⟩|exact ⟨rfl,rfl,rfl,rfl⟩
  ·obtain rfl:j = 0:=by omega
   have i1:(((0:Nat):Int) > 0) = False:=eq_false (by omega)
   repeat' (first|with_reducible (first|refine Q1 ?_|refine Q2 ?_|refine Q3 ?_|refine Q4 ?_|refine Q5 ?_|refine Q6 ?_|refine Q7 ?_|refine Q8 ?_|refine Q9 ?_|refine Qa ?_|refine Qb ?_|refine Qc ?_|refine Qd ?_|refine Qe ?_|refine Qf ?_)|((with_reducible refine Qo ?_ ?_);focus rfl)|((with_reducible first|refine QT 7 (l:=?_) ?_ ?_|refine QF 7 (l:=?_) ?_ ?_);rotate_left 1;focus (simp only [Zu,Nat.reduceSub,Nat.reduceBEq];with_reducible rfl))|((with_reducible first|refine QS (cfg_ok 29) Tab.none (s':=?_) ?_ ?_|refine QC (b:=?_) ?_ ?_);rotate_left 1;focus ((with_reducible refine QW ?_);simp only [Zg,seval,if_true,if_false,reduceCtorEq,Nat.reduceEqDiff,i1];with_reducible rfl)))
   refine roundK.out (t,s) hgr ?_
   (repeat' (first|with_reducible refine Qn|((with_reducible refine Qr ?_ ?_);focus (first|with_reducible rfl|(simp only [Zz,Nat.reduceBEq];done)|rfl))|((with_reducible refine Qj (o':=?_) ?_ ?_ ?_);rotate_left 1;focus rfl)|((with_reducible refine Qw ?_ ?_);(focus (first|with_reducible rfl|(simp only [Zv];done)));focus (first|exact id|exact (fun h => nomatch h)|exact (fun _ => rfl)))))
   all_goals first|exact ⟨rfl,rfl⟩|exact ⟨rfl,rfl,id⟩|exact ⟨rfl,rfl,rfl,rfl⟩
 rintro z rfl
 repeat' (first|with_reducible (first|refine Q1 ?_|refine Q2 ?_|refine Q3 ?_|refine Q4 ?_|refine Q5 ?_|refine Q6 ?_|refine Q7 ?_|refine Q8 ?_|refine Q9 ?_|refine Qa ?_|refine Qb ?_|refine Qc ?_|refine Qd ?_|refine Qe ?_|refine Qf ?_)|((with_reducible refine Qo ?_ ?_);focus rfl)|((with_reducible first|refine QT 7 (l:=?_) ?_ ?_|refine QF 7 (l:=?_) ?_ ?_);rotate_left 1;focus (simp only [Zu,Nat.reduceSub,Nat.reduceBEq];with_reducible rfl))|((with_reducible first|refine QS (cfg_ok 29) Tab.none (s':=?_) ?_ ?_|refine QC (b:=?_) ?_ ?_);rotate_left 1;focus ((with_reducible refine QW ?_);simp only [Zg,seval,if_true,if_false,reduceCtorEq,Nat.reduceEqDiff];with_reducible rfl)))
 (refine EndsP.mk (by simp) (rs:=?_) (ks:=?_) (xs':=?_) hres hrts ?_ ?_ ?_ ?_ ?_;rotate_left 3;(focus (simp only [Ze,Zg,seval,if_true,if_false,reduceCtorEq,Nat.reduceEqDiff];with_reducible rfl));(focus simp);(focus simp);(focus (simp only [look,Nat.reduceEqDiff,Nat.reduceBEq,if_true,if_false];rfl));focus (first|exact ⟨rfl,rfl⟩|exact ⟨rfl,rfl,rfl⟩|skip))
def drawAnyF (code:List Int) (s:Nat × Int) (m:Int):List Int × (Nat × Int) :=
 let p:=drawF code s m
 let c:=nxtF code p.2 24
 if c.1 = 0 then
  let i:=nxtF code c.2 p.1.length
  let v:=nxtF code i.2 6
  (p.1.set i.1.toNat (v.1 - 1),v.2)
 else if c.1 = 1 then ([],c.2)
 else if c.1 = 2 then (p.1 ++ List.replicate 8 1,c.2)
 else (p.1,c.2)
structure AOk (n:Nat) (t:List Int):Prop where
 len:t.length ≤ n
 bd:∀ x ∈ t,-1 ≤ x∧x ≤ n
theorem drawAnyF_ok {code:List Int} (hc:Bytes code) {s:Nat × Int} {m:Int} (hs:s.1 ≤ code.length):AOk (9 + m.toNat) (drawAnyF code s m).1∧(drawAnyF code s m).2.1 ≤ code.length:=by
 obtain ⟨h1,h2⟩:=drawF_ok hc (m:=m) hs
 unfold drawAnyF
 obtain ⟨p,hp⟩:∃ p,p = drawF code s m:=⟨_,rfl⟩
 rw [← hp] at h1 h2 ⊢
 simp only
 have hl:=h1.len
 have ha:AOk (9 + m.toNat) p.1:=⟨by omega,fun x hx => by have:=h1.bd x hx;omega⟩
 have h3:=nxtF_at (n:=24) h2
 have hcb:=nxtF_bd hc p.2 24
 obtain ⟨c,hcd⟩:∃ c,c = nxtF code p.2 24:=⟨_,rfl⟩
 rw [← hcd] at h3 hcb ⊢
 split
 ·have h4:=nxtF_at (n:=(p.1.length:Int)) h3
  have h5:=nxtF_at (n:=6) h4
  have h6:=nxtF_bd hc (nxtF code c.2 p.1.length).2 6
  refine ⟨⟨by simp;omega,fun x hx => ?_⟩,h5⟩
  rcases List.mem_or_eq_of_mem_set hx with hx|hx
  ·exact ha.bd x hx
  ·omega
 ·split
  ·exact ⟨⟨by simp,by simp⟩,h3⟩
  ·split
   ·refine ⟨⟨by simp;omega,fun x hx => ?_⟩,h3⟩
    rcases List.mem_append.1 hx with hx|hx
    ·exact ha.bd x hx
    ·rw [List.eq_of_mem_replicate hx];omega
   ·exact ⟨ha,h3⟩
def drawAnyG (code:List Int) (s:Nat × Int) (m:Int):List Res × (Nat × Int):=([.own 1 ((drawAnyF code s m).1.map eI) true],(drawAnyF code s m).2)
set_option maxRecDepth 20000 in
set_option maxHeartbeats 16000000 in
theorem p_l03DrawAny {code:List Int} (hc:Bytes code) (hl:code.length ≤ 1000000000):DrawsE Try.prog 37 code (drw1 (drawAnyG code)):=by
 refine drw1_of fun s m hs hm1 hm2 => ?_
 have hpin:=nxt_l01Next hc hl
 have hdw:=(p_l03Draw hc hl).ok
 have hdt:drwG code (drw1 (drawG code)) 3 [srcD code s] [[.int m]] = some ([.own 1 ((drawF code s m).1.map eI) true],[srcD code (drawF code s m).2]):=drw1_eq hs ⟨hm1,hm2⟩
 obtain ⟨h1,h2⟩:=drawF_ok hc (m:=m) hs
 have hdr:=nxtE_eq code (drawF code s m).2 24 h2
 have hbd:=nxtF_bd hc (drawF code s m).2 24
 have hat:=nxtF_at (n:=24) h2
 unfold drawAnyG drawAnyF
 obtain ⟨⟨t,s1⟩,hp⟩:∃ p,p = drawF code s m:=⟨_,rfl⟩
 rw [← hp] at h1 h2 hdr hbd hat hdt ⊢
 simp only at h1 h2 hdr hbd hat hdt ⊢
 obtain ⟨⟨c,s2⟩,hq⟩:∃ p,p = nxtF code s1 24:=⟨_,rfl⟩
 rw [← hq] at hdr hbd hat ⊢
 simp only at hdr hbd hat ⊢
 have htl:=h1.len
 have htp:0 < t.length:=List.length_pos_iff.2 h1.pos
 have hlm:(t.map eI).length = t.length:=List.length_map _
 simp only [eI] at hdr
 by_cases c0:c = 0
 ·subst c0
  have hdr2:=nxtE_eq code s2 t.length hat
  have hbd2:=nxtF_bd hc s2 t.length
  have hat2:=nxtF_at (n:=(t.length:Int)) hat
  obtain ⟨⟨i,s3⟩,hq2⟩:∃ p,p = nxtF code s2 t.length:=⟨_,rfl⟩
  rw [← hq2] at hdr2 hbd2 hat2 ⊢
  simp only at hdr2 hbd2 hat2 ⊢
  have hdr3:=nxtE_eq code s3 6 hat2
  have hbd3:=nxtF_bd hc s3 6
  obtain ⟨⟨v,s4⟩,hq3⟩:∃ p,p = nxtF code s3 6:=⟨_,rfl⟩
  rw [← hq3] at hdr3 hbd3 ⊢
  simp only [eI,if_true] at hdr2 hdr3 hbd3 ⊢
  have i1:((0:Int) ≤ i) = True:=eq_true (by omega)
  have i2:(i < (t.length:Int)) = True:=eq_true (by omega)
  have w1:w64 (v - 1) = v - 1:=w64_eq (by omega)
  have hst:(t.set i.toNat (v - 1)).map eI = (t.map eI).set i.toNat [.int (v - 1)]:=by rw [List.map_set];rfl
  have hil:i.toNat < t.length:=by omega
  have hg:(t.map eI)[i.toNat]? = some [.int t[i.toNat]]:=by rw [List.getElem?_map,List.getElem?_eq_getElem hil];rfl
  rw [hst]
  refine AEp.of_runs (cfg_ok 35) Try.func37 rfl rfl rfl (fun _ => rfl) (by simp only [List.length_cons,List.length_nil];decide) ?_
  have hres:Try.f37.results.toList = [.tmp 4]:=rfl
  have hrts:Try.f37.resultTypes.toList = [24]:=rfl
  simp only [List.length_cons,List.length_nil,ownArg,if_true,argRegs,argAV1,eL,eI,eLL,eB,Nat.zero_add,Nat.reduceAdd]
  intro M og cap
  refine RunK.of ?_
  repeat' (first|with_reducible (first|refine Q1 ?_|refine Q2 ?_|refine Q3 ?_|refine Q4 ?_|refine Q5 ?_|refine Q6 ?_|refine Q7 ?_|refine Q8 ?_|refine Q9 ?_|refine Qa ?_|refine Qb ?_|refine Qc ?_|refine Qd ?_|refine Qe ?_|refine Qf ?_)|((with_reducible refine Qo ?_ ?_);focus rfl)|((with_reducible first|refine QT 12 (l:=?_) ?_ ?_|refine QF 12 (l:=?_) ?_ ?_);rotate_left 1;focus (simp only [Zu,Nat.reduceSub,Nat.reduceBEq];with_reducible rfl))|((with_reducible first|refine QS (cfg_ok 35) ((Tab.none.pin 39 (nxtE code) hpin).pin 71 (drwE code (drw1 (drawG code))) hdw) (s':=?_) ?_ ?_|refine QC (b:=?_) ?_ ?_);rotate_left 1;focus ((with_reducible refine QW ?_);simp only [Zg,seval,if_true,if_false,reduceCtorEq,Nat.reduceEqDiff,hdr,hdr2,hdr3,hdt,nxtE,drwE,i1,i2,w1,hlm,hg];with_reducible rfl)))
  (refine EndsP.mk (by simp) (rs:=?_) (ks:=?_) (xs':=?_) hres hrts ?_ ?_ ?_ ?_ ?_;rotate_left 3;(focus (simp only [Ze,Zg,seval,if_true,if_false,reduceCtorEq,Nat.reduceEqDiff];with_reducible rfl));(focus simp);(focus simp);(focus (simp only [look,Nat.reduceEqDiff,Nat.reduceBEq,if_true,if_false];rfl));focus (first|exact ⟨rfl,rfl⟩|exact ⟨rfl,rfl,rfl⟩|skip))
 ·have e0:(c == 0) = false:=by simp [c0]
  by_cases c1:c = 1
  ·subst c1
   rw [if_neg c0,if_pos rfl]
   refine AEp.of_runs (cfg_ok 35) Try.func37 rfl rfl rfl (fun _ => rfl) (by simp only [List.length_cons,List.length_nil];decide) ?_
   have hres:Try.f37.results.toList = [.tmp 4]:=rfl
   have hrts:Try.f37.resultTypes.toList = [24]:=rfl
   simp only [List.length_cons,List.length_nil,ownArg,if_true,argRegs,argAV1,eL,eI,eLL,eB,Nat.zero_add,Nat.reduceAdd]
   intro M og cap
   refine RunK.of ?_
   repeat' (first|with_reducible (first|refine Q1 ?_|refine Q2 ?_|refine Q3 ?_|refine Q4 ?_|refine Q5 ?_|refine Q6 ?_|refine Q7 ?_|refine Q8 ?_|refine Q9 ?_|refine Qa ?_|refine Qb ?_|refine Qc ?_|refine Qd ?_|refine Qe ?_|refine Qf ?_)|((with_reducible refine Qo ?_ ?_);focus rfl)|((with_reducible first|refine QT 12 (l:=?_) ?_ ?_|refine QF 12 (l:=?_) ?_ ?_);rotate_left 1;focus (simp only [Zu,Nat.reduceSub,Nat.reduceBEq];with_reducible rfl))|((with_reducible first|refine QS (cfg_ok 35) ((Tab.none.pin 39 (nxtE code) hpin).pin 71 (drwE code (drw1 (drawG code))) hdw) (s':=?_) ?_ ?_|refine QC (b:=?_) ?_ ?_);rotate_left 1;focus ((with_reducible refine QW ?_);simp only [Zg,seval,if_true,if_false,reduceCtorEq,Nat.reduceEqDiff,hdr,hdt,nxtE,drwE,e0,hlm];with_reducible rfl)))
   (refine EndsP.mk (by simp) (rs:=?_) (ks:=?_) (xs':=?_) hres hrts ?_ ?_ ?_ ?_ ?_;rotate_left 3;(focus (simp only [Ze,Zg,seval,if_true,if_false,reduceCtorEq,Nat.reduceEqDiff];with_reducible rfl));(focus simp);(focus simp);(focus (simp only [look,Nat.reduceEqDiff,Nat.reduceBEq,if_true,if_false];rfl));focus (first|exact ⟨rfl,rfl⟩|exact ⟨rfl,rfl,rfl⟩|skip))
  ·by_cases c2:c = 2
   ·subst c2
    rw [if_neg c0,if_neg c1,if_pos rfl]
    refine AEp.of_runs (cfg_ok 35) Try.func37 rfl rfl rfl (fun _ => rfl) (by simp only [List.length_cons,List.length_nil];decide) ?_
    have hres:Try.f37.results.toList = [.tmp 4]:=rfl
    have hrts:Try.f37.resultTypes.toList = [24]:=rfl
    simp only [List.length_cons,List.length_nil,ownArg,if_true,argRegs,argAV1,eL,eI,eLL,eB,Nat.zero_add,Nat.reduceAdd]
    intro M og cap
    refine RunK.of ?_
    repeat' (first|with_reducible (first|refine Q1 ?_|refine Q2 ?_|refine Q3 ?_|refine Q4 ?_|refine Q5 ?_|refine Q6 ?_|refine Q7 ?_|refine Q8 ?_|refine Q9 ?_|refine Qa ?_|refine Qb ?_|refine Qc ?_|refine Qd ?_|refine Qe ?_|refine Qf ?_)|((with_reducible refine Qo ?_ ?_);focus rfl)|((with_reducible first|refine QT 12 (l:=?_) ?_ ?_|refine QF 12 (l:=?_) ?_ ?_);rotate_left 1;focus (simp only [Zu,Nat.reduceSub,Nat.reduceBEq];with_reducible rfl))|((with_reducible first|refine QS (cfg_ok 35) ((Tab.none.pin 39 (nxtE code) hpin).pin 71 (drwE code (drw1 (drawG code))) hdw) (s':=?_) ?_ ?_|refine QC (b:=?_) ?_ ?_);rotate_left 1;focus ((with_reducible refine QW ?_);simp only [Zg,seval,if_true,if_false,reduceCtorEq,Nat.reduceEqDiff,hdr,hdt,nxtE,drwE,e0,hlm];with_reducible rfl)))
    refine RunK.loop (β:=Nat) (γ:=Unit) (fun j => ⟨[(0,.optr 0 0 0),(5,.c (.own 5 (t.length + j))),(6,.c (.val (.int j)))],[(0,.pin og cap 3 [srcD code s2]),(5,.row 1 ((t ++ List.replicate j 1).map eI) true)]⟩) (fun j => j ≤ 8) (fun j => 8 - j)
     (fun _ => ⟨[(0,.optr 0 0 0),(5,.c (.own 5 (t.length + 8)))],[(0,.pin og cap 3 [srcD code s2]),(5,.row 1 ((t ++ List.replicate 8 1).map eI) true)]⟩) (fun _ => True) 0 (Nat.zero_le _) ?_ ?_ ?_
    ·(repeat' (first|with_reducible refine Qn|((with_reducible refine Qr ?_ ?_);focus (first|with_reducible rfl|(simp only [Zz,Nat.reduceBEq,Nat.add_zero,List.replicate_zero,List.append_nil,Int.natCast_zero];done)|rfl))|((with_reducible refine Qj (o':=?_) ?_ ?_ ?_);rotate_left 1;focus rfl)|((with_reducible refine Qw ?_ ?_);(focus (first|with_reducible rfl|(simp only [Zv,Nat.add_zero,List.replicate_zero,List.append_nil,Int.natCast_zero];done)));focus (first|exact id|exact (fun h => nomatch h)|exact (fun _ => rfl)))))
     all_goals first|exact ⟨rfl,rfl⟩|exact ⟨rfl,rfl,id⟩|exact ⟨rfl,rfl,rfl,rfl⟩
    ·intro j hj
     have hj:j ≤ 8:=hj
     have hw:=w64_succ (n:=j) (by omega)
     by_cases hj8:j < 8
     ·have j1:((j:Int) < 8) = True:=eq_true (by omega)
      have hrl:((t ++ List.replicate j (1:Int)).map eI).length = t.length + j:=by simp
      have hrx:(t ++ List.replicate (j + 1) (1:Int)).map eI = (t ++ List.replicate j (1:Int)).map eI ++ [[.int 1]]:=by
       rw [List.replicate_succ',← List.append_assoc,List.map_append];rfl
      obtain ⟨R,hR⟩:∃ R,R = (t ++ List.replicate j (1:Int)).map eI:=⟨_,rfl⟩
      rw [← hR] at hrl hrx ⊢
      have q1:=big_le (n:=t.length + j + 1) (by omega)
      have q2:=big_mul (n:=t.length + j + 1) (c:=8) (by omega) (by omega)
      repeat' (first|with_reducible (first|refine Q1 ?_|refine Q2 ?_|refine Q3 ?_|refine Q4 ?_|refine Q5 ?_|refine Q6 ?_|refine Q7 ?_|refine Q8 ?_|refine Q9 ?_|refine Qa ?_|refine Qb ?_|refine Qc ?_|refine Qd ?_|refine Qe ?_|refine Qf ?_)|((with_reducible refine Qo ?_ ?_);focus rfl)|((with_reducible first|refine QT 12 (l:=?_) ?_ ?_|refine QF 12 (l:=?_) ?_ ?_);rotate_left 1;focus (simp only [Zu,Nat.reduceSub,Nat.reduceBEq];with_reducible rfl))|((with_reducible first|refine QS (cfg_ok 35) Tab.none (s':=?_) ?_ ?_|refine QC (b:=?_) ?_ ?_);rotate_left 1;focus ((with_reducible refine QW ?_);simp only [Zg,seval,if_true,if_false,reduceCtorEq,Nat.reduceEqDiff,j1,hw,hrl,q1,q2];with_reducible rfl)))
      refine roundK.on (j + 1) ⟨by omega,by omega⟩ ?_
      rw [hrx]
      (repeat' (first|with_reducible refine Qn|((with_reducible refine Qr ?_ ?_);focus (first|with_reducible rfl|(simp only [Zz,Nat.reduceBEq];done)|rfl))|((with_reducible refine Qj (o':=?_) ?_ ?_ ?_);rotate_left 1;focus rfl)|((with_reducible refine Qw ?_ ?_);(focus (first|with_reducible rfl|(simp only [Zv];done)));focus (first|exact id|exact (fun h => nomatch h)|exact (fun _ => rfl)))))
      all_goals first|exact ⟨rfl,rfl⟩|exact ⟨rfl,rfl,id⟩|exact ⟨rfl,rfl,rfl,rfl⟩
     ·obtain rfl:j = 8:=by omega
      have j1:(((8:Nat):Int) < 8) = False:=eq_false (by omega)
      repeat' (first|with_reducible (first|refine Q1 ?_|refine Q2 ?_|refine Q3 ?_|refine Q4 ?_|refine Q5 ?_|refine Q6 ?_|refine Q7 ?_|refine Q8 ?_|refine Q9 ?_|refine Qa ?_|refine Qb ?_|refine Qc ?_|refine Qd ?_|refine Qe ?_|refine Qf ?_)|((with_reducible refine Qo ?_ ?_);focus rfl)|((with_reducible first|refine QT 12 (l:=?_) ?_ ?_|refine QF 12 (l:=?_) ?_ ?_);rotate_left 1;focus (simp only [Zu,Nat.reduceSub,Nat.reduceBEq];with_reducible rfl))|((with_reducible first|refine QS (cfg_ok 35) Tab.none (s':=?_) ?_ ?_|refine QC (b:=?_) ?_ ?_);rotate_left 1;focus ((with_reducible refine QW ?_);simp only [Zg,seval,if_true,if_false,reduceCtorEq,Nat.reduceEqDiff,j1];with_reducible rfl)))
      refine roundK.out () trivial ?_
      (repeat' (first|with_reducible refine Qn|((with_reducible refine Qr ?_ ?_);focus (first|with_reducible rfl|(simp only [Zz,Nat.reduceBEq];done)|rfl))|((with_reducible refine Qj (o':=?_) ?_ ?_ ?_);rotate_left 1;focus rfl)|((with_reducible refine Qw ?_ ?_);(focus (first|with_reducible rfl|(simp only [Zv];done)));focus (first|exact id|exact (fun h => nomatch h)|exact (fun _ => rfl)))))
      all_goals first|exact ⟨rfl,rfl⟩|exact ⟨rfl,rfl,id⟩|exact ⟨rfl,rfl,rfl,rfl⟩
    rintro _ _
    repeat' (first|with_reducible (first|refine Q1 ?_|refine Q2 ?_|refine Q3 ?_|refine Q4 ?_|refine Q5 ?_|refine Q6 ?_|refine Q7 ?_|refine Q8 ?_|refine Q9 ?_|refine Qa ?_|refine Qb ?_|refine Qc ?_|refine Qd ?_|refine Qe ?_|refine Qf ?_)|((with_reducible refine Qo ?_ ?_);focus rfl)|((with_reducible first|refine QT 12 (l:=?_) ?_ ?_|refine QF 12 (l:=?_) ?_ ?_);rotate_left 1;focus (simp only [Zu,Nat.reduceSub,Nat.reduceBEq];with_reducible rfl))|((with_reducible first|refine QS (cfg_ok 35) Tab.none (s':=?_) ?_ ?_|refine QC (b:=?_) ?_ ?_);rotate_left 1;focus ((with_reducible refine QW ?_);simp only [Zg,seval,if_true,if_false,reduceCtorEq,Nat.reduceEqDiff];with_reducible rfl)))
    (refine EndsP.mk (by simp) (rs:=?_) (ks:=?_) (xs':=?_) hres hrts ?_ ?_ ?_ ?_ ?_;rotate_left 3;(focus (simp only [Ze,Zg,seval,if_true,if_false,reduceCtorEq,Nat.reduceEqDiff];with_reducible rfl));(focus simp);(focus simp);(focus (simp only [look,Nat.reduceEqDiff,Nat.reduceBEq,if_true,if_false];rfl));focus (first|exact ⟨rfl,rfl⟩|exact ⟨rfl,rfl,rfl⟩|skip))
   ·have e1:(c == 1) = false:=by simp [c1]
    have e2:(c == 2) = false:=by simp [c2]
    rw [if_neg c0,if_neg c1,if_neg c2]
    refine AEp.of_runs (cfg_ok 35) Try.func37 rfl rfl rfl (fun _ => rfl) (by simp only [List.length_cons,List.length_nil];decide) ?_
    have hres:Try.f37.results.toList = [.tmp 4]:=rfl
    have hrts:Try.f37.resultTypes.toList = [24]:=rfl
    simp only [List.length_cons,List.length_nil,ownArg,if_true,argRegs,argAV1,eL,eI,eLL,eB,Nat.zero_add,Nat.reduceAdd]
    intro M og cap
    refine RunK.of ?_
    repeat' (first|with_reducible (first|refine Q1 ?_|refine Q2 ?_|refine Q3 ?_|refine Q4 ?_|refine Q5 ?_|refine Q6 ?_|refine Q7 ?_|refine Q8 ?_|refine Q9 ?_|refine Qa ?_|refine Qb ?_|refine Qc ?_|refine Qd ?_|refine Qe ?_|refine Qf ?_)|((with_reducible refine Qo ?_ ?_);focus rfl)|((with_reducible first|refine QT 12 (l:=?_) ?_ ?_|refine QF 12 (l:=?_) ?_ ?_);rotate_left 1;focus (simp only [Zu,Nat.reduceSub,Nat.reduceBEq];with_reducible rfl))|((with_reducible first|refine QS (cfg_ok 35) ((Tab.none.pin 39 (nxtE code) hpin).pin 71 (drwE code (drw1 (drawG code))) hdw) (s':=?_) ?_ ?_|refine QC (b:=?_) ?_ ?_);rotate_left 1;focus ((with_reducible refine QW ?_);simp only [Zg,seval,if_true,if_false,reduceCtorEq,Nat.reduceEqDiff,hdr,hdt,nxtE,drwE,e0,e1,e2,hlm];with_reducible rfl)))
    (refine EndsP.mk (by simp) (rs:=?_) (ks:=?_) (xs':=?_) hres hrts ?_ ?_ ?_ ?_ ?_;rotate_left 3;(focus (simp only [Ze,Zg,seval,if_true,if_false,reduceCtorEq,Nat.reduceEqDiff];with_reducible rfl));(focus simp);(focus simp);(focus (simp only [look,Nat.reduceEqDiff,Nat.reduceBEq,if_true,if_false];rfl));focus (first|exact ⟨rfl,rfl⟩|exact ⟨rfl,rfl,rfl⟩|skip))
end Go.Proofs.Ytedgfkpfhonlpaa

/- Lemmas (10). -/
import Derived.Test.YtofpjonggpjneaaZF0
import Derived.Test.YtofpjonggpjneaaZF1
import Derived.Test.YtofpjonggpjneaaZF2
import Derived.Test.YtofpjonggpjneaaZF3
import Derived.Test.YtofpjonggpjneaaZF7
import Derived.Test.YtofpjonggpjneaaZF8
import Derived.Test.YtofpjonggpjneaaZF9
set_option linter.unusedSimpArgs false
set_option linter.unusedVariables false
namespace Go.Proofs.Ytofpjonggpjneaa
open Go.RowKit
structure AFnP (P:Program) (f:FuncId) (ds:List (List D)) (r:List D):Prop where
 call:∀ args w,(callFunc f args).run P w = .ok (.enter f args) w
 fn:∀ (A:Nat→Prop) w vs,(∀ b,A b→b < w.heap.size)→relArgs A w ds vs →
  Calls P f vs.toArray w (fun e w' => ∃ b ds',e = .returned (.pointer (some ⟨b,0,none⟩))∧w.heap.size ≤ b∧Below w.heap.size w w'∧Row w' (slv (some b) 1 1) r.length 1 ds' (some b)∧0 < r.length∧rdCs (fun c => (A c ∨ w.heap.size ≤ c)∧c ≠ b) w' ds' r)
section
variable {P:Program} {cfg:Cfg} {M:Nat→Prop} {ops:Array Oper} {s s':St} {w0:W0} {w:World} {Ok:Nat→Prop} {N:Nat} {σ:Asg} {a:Act} {fs:List Fr} {Q:Exit→St→Prop} {T:Tab P} {H:List (Nat × Obj)}
theorem rdR_one {A:Nat→Prop} {w:World} {k:Nat} {ds:List Value} {r:List D} (h:rdR k A w ds [r]):rdCs A w ds r:=by
 obtain ⟨c,e,rfl,_,_,h1,h2⟩:=h.cons_inv
 have he:e = []:=List.eq_nil_of_length_eq_zero (by rw [h2.len];simp)
 rw [he,List.append_nil];exact h1
theorem ROps.callR (C:CfgOK P cfg) {o:Oper} {l:List Oper} {Q:St→Prop} (hg:o.guard = Option.none) {d:Nat} (hd:o.dst = some d) (hdN:d < cfg.N) {f:Operand} {args:Array Operand} {ts:Array TypeId} (ho:o.op = .call ⟨.value f,args,ts⟩) {g:FuncId} (hf:((opv s.regs f).bind avD).bind fnId = some g)
  {ds:List (List D)} (hds:aargs cfg (fun k => look k s.heap) s.regs args.toList ts.toList = some ds) (hs:opRefs s.regs args.toList = []) {r:List D} (hfn:AFnP P g ds r) (hfr:fresh s d = true) (h:∀ b,ROps P cfg M ops l Q ⟨insR d (.optr d 0 0) s.regs,insR d (.pin (some b) 1 r.length [r]) s.heap⟩):ROps P cfg M ops (o :: l) Q s:=by
 intro w0 Ok σ a w Q' hM hS hQ
 refine wpList_step (fun K hK => ?_)
 have hw:awanted ops s.regs o = some true:=by unfold awanted;rw [hg]
 rw [awanted_spec hS hw]
 simp only [if_true]
 obtain ⟨_,l2⟩:=aargs_rel C hS hds
 have hfv:a.eval f = .func (.func g) #[] #[]:=fnId_rel hS hf
 have hrun:(execOp a.eval o).run P w = .ok (.enter g (args.map a.eval)) w:=by
  unfold execOp
  rw [ho]
  simp [resolve,Deferred.ofValue,hfv,invoke,hfn.call]
 have hcall:=hfn.fn (Zn σ s.heap w) w (args.toList.map a.eval) (fun _ h => h.1) (l2 hs)
 unfold Oper.wp
 rw [hrun,Oper.upon_enter]
 have e:(args.toList.map a.eval).toArray = args.map a.eval:=by rw [← Array.toList_map,Array.toArray_toList]
 rw [← e]
 refine hcall.mono ?_
 rintro e w' ⟨b,ds',rfl,hb,hB,hrow,hk,hrd⟩
 have hfree:=fresh_free hfr
 obtain ⟨σ',k0,k1,k2,hZ,hS'⟩:=hS.new hB d (.row r.length [r] false) hfree (some b) 1 [] ds' hrow hk (fun σ' hok hF hg' hgo hZ hst => by
  show rdR r.length (Zn σ' _ w') w' ds' [r]
  refine rdR.single hk rfl (hrd.mono (fun c hc hlt => ?_))
  rcases hc.1 with h1|h1
  ·exact (hZ c h1).1
  ·refine ⟨hlt,by rw [hok];exact hS.ok1 c (.inl (Nat.le_trans hS.below.size h1)),fun q u hq e => ?_⟩
   simp only [look] at hq
   by_cases hqd:d = q
   ·subst hqd
    rw [hg'] at e
    cases e
    exact hc.2 rfl
   ·rw [if_neg hqd] at hq
    rw [hgo q (fun e => hqd e.symm)] at e
    have:=fp_lt hS hq c (fp_out e)
    omega) (fun c hc => by
   have hc:c ∈ [b] ++ []:=hc
   rw [List.append_nil,List.mem_singleton] at hc
   rw [hc];exact hb) (by simp)
 have hS2:=Sim.setObj hS' (key:=d) (u:=.row r.length [r] false) (ob:=.pin (some b) 1 r.length [r]) (by simp [look]) rfl rfl rfl (fun H' hm _ ds _ hel => by
  have hel:rdR r.length (Zn σ' _ w') w' ds [r]:=hel
  exact ⟨k1,k2,hel.mono (fun c hc _ => hm c hc)⟩)
 have hS3:Sim w0 Ok cfg.N σ' ⟨s.regs,insR d (.pin (some b) 1 r.length [r]) s.heap⟩ a w':=hS2.forget (fun _ _ h => h) (fun q o' ho' => by
  rw [look_ins] at ho'
  rw [look_ins]
  by_cases e:d = q
  ·rw [if_pos e] at ho' ⊢;exact ho'
  ·rw [if_neg e] at ho' ⊢
   simp only [look]
   rw [if_neg e];exact ho')
 show K (a.put o.dst _) _
 rw [hd]
 refine hK _ _ (h b w0 Ok σ' _ _ Q' hM (Sim.ins hS3 hdN ?_) hQ)
 intro o' ho'
 rw [look_ins,if_pos rfl] at ho'
 cases ho'
 exact ⟨Nat.zero_lt_one,b,k1,by simp⟩
end
def eU (c:Int):List D:=[.raw (.int .u8 c)]
def dCode (code:List Int):D:=.sl 1 (code.map eU)
def eCode (code:List Int):List D:=[dCode code]
def srcD (code:List Int) (s:Nat × Int):List D:=[.sl 1 (code.map eU),.int s.1,.raw (.int .u64 s.2)]
def Bytes (code:List Int):Prop:=∀ c ∈ code,0 ≤ c∧c < 256
theorem rdU {A:Nat→Prop} {w:World}:∀ {code:List Int} {ds:List Value} {d:Nat} {hk:0 < 1},rdL (RK 1 hk (RC d)) A w ds (code.map eU)→ds = code.map fun c => Value.int .u8 c
 | [],_,_,_,h => h
 | c :: code,ds,d,hk,⟨c1,d1,e,h1,h2⟩ => by
  obtain ⟨_,_,h3⟩:=h1
  have h3:=rdL_one1.1 h3
  have hc:c1 = [Value.int .u8 c]:=by
   have:rdV A w (c1.headD undef) (.raw (.int .u8 c)):=by
    obtain ⟨x,rfl⟩:∃ x,c1 = [x]:=by
     have:=(RC d).rd_len h3
     rw [RC_k] at this
     match c1,this with
     | [x],_ => exact ⟨x,rfl⟩
    exact ⟨d,h3⟩
   have hl:=(RC d).rd_len h3
   rw [RC_k] at hl
   match c1,hl,this with
   | [x],_,this => rw [show x = _ from (rdV_raw.1 this).1]
  rw [e,hc,rdU h2];rfl
theorem byt_of {A:Nat→Prop} {w:World} {v:Value} {code:List Int} {b:Nat} (hb:¬ A b) (hc:Bytes code) (h:rdV A w v (.sl 1 (code.map eU))):∃ oa cap,v = .slice oa code.length cap∧code.length ≤ cap∧cap ≤ maxLen∧(oa = none→cap = 0)∧Byt w b oa code:=by
 obtain ⟨oa,cap,ds,rfl,h1,h2,h3,h4,h5⟩:=rdV_sl.1 h
 rw [List.length_map] at h1 ⊢
 refine ⟨oa,cap,rfl,h1,h2,h3,hc,?_⟩
 obtain ⟨d,hk,h4⟩:=h4
 have e:=rdU h4
 rcases h5 with h5|⟨b2,off,h5,h6,h7⟩
 ·left
  rw [h5] at e
  cases code with
  | nil => rfl
  | cons => cases e
 ·by_cases hn:code = []
  ·exact .inl hn
  ·refine .inr ⟨b2,off,h5,fun e => hb (e ▸ h6),fun i hi => h7 i _ ?_⟩
   rw [e,List.getElem?_map,List.getElem?_eq_getElem hi];rfl
theorem nxtF_at {code:List Int} {s:Nat × Int} {n:Int} (h:s.1 ≤ code.length):(nxtF code s n).2.1 ≤ code.length:=by
 unfold nxtF
 split
 ·exact h
 ·show (if s.1 < code.length then s.1 + 1 else s.1) ≤ _
  split <;> omega
noncomputable def nxtG (code:List Int) (k:Nat) (xs:List (List D)) (post:List (List D)):Option (List Res × List (List D)):=by
 classical
 exact if h:∃ p:(Nat × Int) × Int,p.1.1 ≤ code.length∧k = 3∧xs = [srcD code p.1]∧post = [eI p.2] then some ([.val (.int (nxtF code h.choose.1 h.choose.2).1)],[srcD code (nxtF code h.choose.1 h.choose.2).2]) else none
noncomputable def nxtE (code:List Int):PinE:=⟨true,nxtG code⟩
theorem srcD_inj {code:List Int} {s s':Nat × Int} (h:srcD code s = srcD code s'):s = s':=by
 unfold srcD at h
 simp only [List.cons.injEq,D.int.injEq,D.raw.injEq,Value.int.injEq,true_and,and_true] at h
 exact Prod.ext (by omega) h.2
theorem nxtE_eq (code:List Int) (s:Nat × Int) (n:Int) (h:s.1 ≤ code.length):nxtG code 3 [srcD code s] [eI n] = some ([.val (.int (nxtF code s n).1)],[srcD code (nxtF code s n).2]):=by
 unfold nxtG
 have hx:∃ p:(Nat × Int) × Int,p.1.1 ≤ code.length∧3 = 3∧[srcD code s] = [srcD code p.1]∧[eI n] = [eI p.2]:=⟨(s,n),h,rfl,rfl,rfl⟩
 rw [dif_pos hx]
 obtain ⟨_,_,h2,h3⟩:=hx.choose_spec
 have e1:=srcD_inj (List.cons.inj h2).1
 have e2:n = hx.choose.2:=by
  exact D.int.inj (List.cons.inj (List.cons.inj h3).1).1
 rw [← e1,← e2]
section
variable {P:Program} {f:FuncId} {code:List Int} (hc:Bytes code) (eg:∀ args w,(callFunc f args).run P w = .ok (.enter f args) w)
 (hw:∀ (w:World) (b:Nat) (oa:Option Addr) (cap cap0:Nat) (s:Nat × Int) (n:Int),Row w (slv (some b) 1 cap0) 3 1 [.slice oa code.length cap,.int .i64 s.1,.int .u64 s.2] (some b)→Byt w b oa code→In64 n→s.1 ≤ code.length→code.length ≤ 1000000000 →
  Calls P f #[.pointer (some ⟨b,0,none⟩),.int .i64 n] w (RetN w b oa cap cap0 code (nxtF code s n)))
include hc eg hw
theorem nxt_ok (hl:code.length ≤ 1000000000) (k:Nat) (xs:List (List D)) (post:List (List D)) (x:List Res × List (List D)) (hx:(nxtE code).fn k xs post = some x):AEp P f (nxtE code).ptr k xs post (fun rs xs' => rs = x.1∧xs' = x.2):=by
 have hx:nxtG code k xs post = some x:=hx
 have key:∃ (s:Nat × Int) (n:Int),s.1 ≤ code.length∧k = 3∧xs = [srcD code s]∧post = [eI n]:=by
  unfold nxtG at hx
  split at hx
  ·rename_i h;obtain ⟨p,h1,h2,h3,h4⟩:=h;exact ⟨p.1,p.2,h1,h2,h3,h4⟩
  ·cases hx
 obtain ⟨s,n,h1,rfl,rfl,rfl⟩:=key
 rw [nxtE_eq code s n h1] at hx
 cases hx
 refine ⟨eg,fun A w us og cap0 ds hA hu hrow hk hrd hb => ?_⟩
 obtain ⟨b,hog⟩:=hrow.some_of (j:=0) Nat.zero_lt_one
 subst hog
 obtain ⟨cap1,hcv,_,_⟩:=hrow.slice
 have hb:=hb b rfl
 obtain ⟨u,us',rfl,hu1,hu2⟩:=hu
 have hu2:us' = []:=hu2
 subst hu2
 obtain ⟨rfl,hn⟩:=rdV_int.1 hu1
 have hrd:=rdR_one hrd
 obtain ⟨v0,ds1,rfl,hv0,hrd⟩:=hrd.cons_inv
 obtain ⟨v1,ds2,rfl,hv1,hrd⟩:=hrd.cons_inv
 obtain ⟨v2,ds3,rfl,hv2,hrd⟩:=hrd.cons_inv
 have hd3:ds3 = []:=List.eq_nil_of_length_eq_zero hrd.len
 subst hd3
 obtain ⟨rfl,hi⟩:=rdV_int.1 hv1
 obtain ⟨rfl,_⟩:=rdV_raw.1 hv2
 obtain ⟨oa,cap,rfl,hcap,hcm,hnil,hB⟩:=byt_of hb hc hv0
 refine (hw w b oa cap cap0 s n hrow hB hn h1 hl).mono ?_
 rintro e w' ⟨rfl,hrow',hbel⟩
 have hbd:=nxtF_bd hc s n
 have hin:In64 (nxtF code s n).1:=by unfold In64 at hn ⊢;omega
 have hat:=nxtF_at (n:=n) h1
 refine ⟨_,_,_,[.slice oa code.length cap,.int .i64 (nxtF code s n).2.1,.int .u64 (nxtF code s n).2.2],[.int .i64 (nxtF code s n).1],[],[],rfl,⟨rfl,rfl⟩,⟨hbel.os,hbel.tape,hbel.output,hbel.size,fun c hc hne => hbel.block c hc (fun e => hne (by show some b = some c;rw [show c = b from e]))⟩,rfl,List.nodup_nil,(by simp),?_,rfl,hrow',?_⟩
 ·exact ⟨_,[],[],[],[],[],rfl,rfl,rfl,rfl,⟨rdV_int.2 ⟨rfl,hin⟩,rfl,rfl⟩,rfl,rfl,rfl⟩
 ·refine rdR.single (by decide) rfl (.cons ((hv0.frame (fun c hA' hlt => hbel.block c hlt (fun e => hb (e ▸ hA')))).mono (fun c hA' _ => ⟨.inl hA',by simp,fun e => hb (by cases e;exact hA')⟩)) (.cons (rdV_int.2 ⟨rfl,?_⟩) (.cons (rdV_raw.2 ⟨rfl,rfl⟩) .nil)))
  unfold In64;omega
end
section
variable {P:Program} {f:FuncId} {code:List Int} (hc:Bytes code)
include hc
theorem frm_ok (eg:∀ args w,(callFunc f args).run P w = .ok (.enter f args) w) {xs:List (List D)} {us0:List Value} (hxs:∀ A w us,relArgs A w xs us→us = us0) {h:Int}
  (hw:∀ (w:World) (oa:Option Addr) (cap:Nat),Byt w w.heap.size oa code→code.length ≤ cap→(oa = none→cap = 0)→Calls P f (.slice oa code.length cap :: us0).toArray w (RetP w oa cap code h)) :
  AFnP P f (eCode code :: xs) (srcD code (0,h)):=by
 refine ⟨eg,fun A w vs hA hv => ?_⟩
 obtain ⟨v,us,rfl,hv1,hv2⟩:=hv
 obtain rfl:=hxs _ _ _ hv2
 have hv1:rdV A w v (.sl 1 (code.map eU)):=hv1
 obtain ⟨oa,cap,rfl,hcap,hcm,hnil,hB⟩:=byt_of (b:=w.heap.size) (fun h => Nat.lt_irrefl _ (hA _ h)) hc hv1
 refine (hw w oa cap hB hcap hnil).mono ?_
 rintro e w' ⟨rfl,hrow,hbel⟩
 refine ⟨_,_,rfl,Nat.le_refl _,hbel,hrow,(by show 0 < 3;omega),?_⟩
 refine .cons ((hv1.frame (fun c hA' hlt => hbel.block c hlt)).mono (fun c hA' _ => ⟨.inl hA',by have:=hA c hA';omega⟩)) (.cons (rdV_int.2 ⟨rfl,by unfold In64;omega⟩) (.cons (rdV_raw.2 ⟨rfl,rfl⟩) .nil))
end
theorem nxt_l01Next {code:List Int} (hc:Bytes code) (hl:code.length ≤ 1000000000) (k:Nat) (xs:List (List D)) (post:List (List D)) (x:List Res × List (List D)) (hx:(nxtE code).fn k xs post = some x):AEp Try.prog 108 (nxtE code).ptr k xs post (fun rs xs' => rs = x.1∧xs' = x.2) :=
 nxt_ok hc (enters_of Try.func108 rfl rfl) (fun w b oa cap cap0 s n h1 h2 h3 h4 h5 => c_l01Next w b oa code cap cap0 s n h1 h2 h3 h4 h5) hl k xs post x hx
def src0 (code:List Int):Nat × Int:=(0,hshF 11 (5381 + code.length) (code.take 4096))
theorem p_l01From {code:List Int} (hc:Bytes code) (hl:code.length ≤ 1000000000):AFnP Try.prog 90 [eCode code] (srcD code (src0 code)) :=
 frm_ok (xs:=[]) hc (enters_of Try.func90 rfl rfl) (us0:=[]) (fun _ _ _ h => h) (fun w oa cap h1 h2 h3 => c_l01From w oa code cap h1 h2 h3 hl)
end Go.Proofs.Ytofpjonggpjneaa
namespace Go.Proofs.Ytofpjonggpjneaa
open Go.RowKit
def RU:Rep Int where
 k:=1
 rd:=fun _ _ cs n => cs = [.int .u8 n]∧0 ≤ n∧n ≤ 255
 own:=fun _ cs n F => (cs = [.int .u8 n]∧0 ≤ n∧n ≤ 255)∧F = []
 kpos:=by decide
 rd_len:=by intro A w cs x h;rw [h.1];rfl
 rd_one:=by intro A w cs x h v hv;rw [h.1] at hv;simp at hv;subst hv;rfl
 rd_frame:=fun h _ => h
 rd_mono:=fun h _ => h
 own_rd:=fun h => h.1
 own_frame:=fun h _ => h
 own_lt:=by intro w cs x F h b hb;rw [h.2] at hb;simp at hb
abbrev RBytes:Rep (List Int):=RS RU
theorem opU8:Opens Try.prog RU 5:=by
 intro H enc w base spare held fuel cs x h
 obtain ⟨n,rfl,_,hw⟩:=DataW.trod_int Try.underlying5 h
 exact ⟨n,rfl,bounds_u8 hw⟩
theorem opBytes:Opens Try.prog RBytes 22:=Opens.slice Try.underlying22 (by kernel_rfl) opU8
theorem rdU_to {A:Nat→Prop} {w:World}:∀ {code:List Int} {ds:List Value},rdL RU A w ds code→rdL (RK 1 (by decide) (RC 0)) A w ds (code.map eU)∧Bytes code
 | [],_,h => ⟨h,fun c hc => nomatch hc⟩
 | c :: code,ds,⟨c1,d1,e,⟨h1,h2,h3⟩,h4⟩ => by
  obtain ⟨h5,h6⟩:=rdU_to h4
  refine ⟨⟨c1,d1,e,⟨by rw [h1];rfl,rfl,?_⟩,h5⟩,fun x hx => ?_⟩
  ·rw [h1]
   exact rdL_one1.2 ⟨rfl,rfl⟩
  ·rcases List.mem_cons.1 hx with rfl|hx
   ·omega
   ·exact h6 x hx
theorem arg_bytes {w:World} {u:Value} {code:List Int} (h:Rd RBytes w [u] code):relArg (· < w.heap.size) w (eCode code) u∧Bytes code:=by
 obtain ⟨oa,cap,ds,h1,h2,h3,h4,h5,h6⟩:=h
 obtain ⟨k1,k2⟩:=rdU_to h5
 refine ⟨?_,k2⟩
 show rdV _ w u (.sl 1 (code.map eU))
 rw [rdV_sl]
 rw [List.length_map]
 exact ⟨oa,cap,ds,(List.cons.inj h1).1,h2,h3,h4,⟨0,by decide,k1⟩,h6⟩
theorem law_code {f:FuncId} (hf:∀ code:List Int,Bytes code→AFn Try.prog f [eCode code] (· = [.val (.bool true)])) (v:Value) (code:List Int) (w:World) (h:Rd RBytes w [v] code):Calls Try.prog f #[v] w (RetV w (.bool true)):=by
 obtain ⟨h1,h2⟩:=arg_bytes h
 exact AFn.one (fun _ _ _ h => rdV_bool.1 h) (hf code h2) (args1 h1)
theorem a_big (code:List Int):AFn Try.prog 13 [eCode code] (· = [.val (.bool (decide (4096 < code.length)))]):=by
 by_cases h:4096 < code.length
 ·have i1:((code.length:Int) > 4096) = True:=eq_true (by omega)
  rw [decide_eq_true h]
  refine AFn.of_runs (cfg_ok 6) Try.func13 rfl rfl rfl (by simp only [List.length_cons,List.length_nil];decide) ?_
  have hres:Try.f13.results.toList = [.tmp 2]:=rfl
  have hrts:Try.f13.resultTypes.toList = [4]:=rfl
  simp only [argRegs,argAV1,eL,eI,eLL,eB,Nat.zero_add,Nat.reduceAdd,eCode,dCode]
  intro M
  refine RunK.of ?_
  repeat' (first|with_reducible (first|refine Q1 ?_|refine Q2 ?_|refine Q3 ?_|refine Q4 ?_|refine Q5 ?_|refine Q6 ?_|refine Q7 ?_|refine Q8 ?_|refine Q9 ?_|refine Qa ?_|refine Qb ?_|refine Qc ?_|refine Qd ?_|refine Qe ?_|refine Qf ?_)|((with_reducible refine Qo ?_ ?_);focus rfl)|((with_reducible first|refine QT 3 (l:=?_) ?_ ?_|refine QF 3 (l:=?_) ?_ ?_);rotate_left 1;focus (simp only [Zu,Nat.reduceSub,Nat.reduceBEq];with_reducible rfl))|((with_reducible first|refine QS (cfg_ok 6) Tab.none (s':=?_) ?_ ?_|refine QC (b:=?_) ?_ ?_);rotate_left 1;focus ((with_reducible refine QW ?_);simp only [Zg,seval,if_true,if_false,reduceCtorEq,Nat.reduceEqDiff,i1,List.length_map];with_reducible rfl)))
  (refine Ends.mk (by simp) (rs:=?_) (ks:=?_) hres hrts ?_ ?_ ?_;rotate_left 2;(focus (simp only [Ze,Zg,seval,if_true,if_false,reduceCtorEq,Nat.reduceEqDiff];with_reducible rfl));(focus simp);focus (first|with_reducible rfl|(simp only [Zv];done)))
 ·have i1:((code.length:Int) > 4096) = False:=eq_false (by omega)
  rw [decide_eq_false h]
  refine AFn.of_runs (cfg_ok 6) Try.func13 rfl rfl rfl (by simp only [List.length_cons,List.length_nil];decide) ?_
  have hres:Try.f13.results.toList = [.tmp 2]:=rfl
  have hrts:Try.f13.resultTypes.toList = [4]:=rfl
  simp only [argRegs,argAV1,eL,eI,eLL,eB,Nat.zero_add,Nat.reduceAdd,eCode,dCode]
  intro M
  refine RunK.of ?_
  repeat' (first|with_reducible (first|refine Q1 ?_|refine Q2 ?_|refine Q3 ?_|refine Q4 ?_|refine Q5 ?_|refine Q6 ?_|refine Q7 ?_|refine Q8 ?_|refine Q9 ?_|refine Qa ?_|refine Qb ?_|refine Qc ?_|refine Qd ?_|refine Qe ?_|refine Qf ?_)|((with_reducible refine Qo ?_ ?_);focus rfl)|((with_reducible first|refine QT 3 (l:=?_) ?_ ?_|refine QF 3 (l:=?_) ?_ ?_);rotate_left 1;focus (simp only [Zu,Nat.reduceSub,Nat.reduceBEq];with_reducible rfl))|((with_reducible first|refine QS (cfg_ok 6) Tab.none (s':=?_) ?_ ?_|refine QC (b:=?_) ?_ ?_);rotate_left 1;focus ((with_reducible refine QW ?_);simp only [Zg,seval,if_true,if_false,reduceCtorEq,Nat.reduceEqDiff,i1,List.length_map];with_reducible rfl)))
  (refine Ends.mk (by simp) (rs:=?_) (ks:=?_) hres hrts ?_ ?_ ?_;rotate_left 2;(focus (simp only [Ze,Zg,seval,if_true,if_false,reduceCtorEq,Nat.reduceEqDiff];with_reducible rfl));(focus simp);focus (first|with_reducible rfl|(simp only [Zv];done)))
end Go.Proofs.Ytofpjonggpjneaa
namespace Go.Proofs.Ytofpjonggpjneaa
open Go.RowKit
theorem EndsP.mk {P:Program} {cfg:Cfg} {M:Nat→Prop} {fn:Func} {Q0:List Res→List (List D)→Prop} {og:Option Nat} {cap k n:Nat} {e:Exit} {s:St} {rs:List Res} {ks:List Nat} {xs':List (List D)} (he:e = .normal ∨ e = .ret) {rvs:List ResultVar} {ts:List TypeId} (h1:fn.results.toList = rvs) (h2:fn.resultTypes.toList = ts)
  (h:aresults cfg s rvs ts = some (rs,ks)) (hk:ks.Nodup) (hz:0 ∉ ks) (hl:look 0 s.heap = some (.pin og cap k xs')) (hq:xs'.length = n∧Q0 rs xs'):outK P cfg M [] (EndsP cfg fn Q0 og cap k n) e s:=⟨he,rs,ks,xs',by rw [h1,h2];exact h,hk,hz,hl,hq.1,hq.2⟩
theorem srcD_len (code:List Int) (s:Nat × Int):(srcD code s).length = 3:=rfl
noncomputable def drwG (code:List Int) (F:(Nat × Int)→List (List D)→Option (List Res × (Nat × Int))) (k:Nat) (xs:List (List D)) (post:List (List D)):Option (List Res × List (List D)):=by
 classical
 exact if h:∃ s:Nat × Int,s.1 ≤ code.length∧k = 3∧xs = [srcD code s] then (F h.choose post).map (fun p => (p.1,[srcD code p.2])) else none
noncomputable def drwE (code:List Int) (F:(Nat × Int)→List (List D)→Option (List Res × (Nat × Int))):PinE:=⟨true,drwG code F⟩
theorem drwG_eq {code:List Int} {F:(Nat × Int)→List (List D)→Option (List Res × (Nat × Int))} {s:Nat × Int} (h:s.1 ≤ code.length) {post:List (List D)}:drwG code F 3 [srcD code s] post = (F s post).map (fun p => (p.1,[srcD code p.2])):=by
 unfold drwG
 have hx:∃ s':Nat × Int,s'.1 ≤ code.length∧3 = 3∧[srcD code s] = [srcD code s']:=⟨s,h,rfl,rfl⟩
 rw [dif_pos hx]
 obtain ⟨_,_,h2⟩:=hx.choose_spec
 rw [← srcD_inj (List.cons.inj h2).1]
def DrawsE (P:Program) (f:FuncId) (code:List Int) (F:(Nat × Int)→List (List D)→Option (List Res × (Nat × Int))):Prop :=
 ∀ s post rs s',s.1 ≤ code.length→F s post = some (rs,s')→AEp P f true 3 [srcD code s] post (fun r x => r = rs∧x = [srcD code s'])
theorem DrawsE.ok {P:Program} {f:FuncId} {code:List Int} {F:(Nat × Int)→List (List D)→Option (List Res × (Nat × Int))} (H:DrawsE P f code F) (k:Nat) (xs:List (List D)) (post:List (List D)) (x:List Res × List (List D)) (hx:(drwE code F).fn k xs post = some x):AEp P f (drwE code F).ptr k xs post (fun rs xs' => rs = x.1∧xs' = x.2):=by
 have hx:drwG code F k xs post = some x:=hx
 unfold drwG at hx
 split at hx
 ·rename_i h
  obtain ⟨h1,h2,h3⟩:=h.choose_spec
  obtain ⟨p,hp,e⟩:=Option.map_eq_some_iff.1 hx
  subst h2
  rw [h3,← e]
  exact H _ _ _ _ h1 hp
 ·cases hx
def drw1 (G:(Nat × Int)→Int→List Res × (Nat × Int)) (s:Nat × Int):List (List D)→Option (List Res × (Nat × Int))
 | [[.int m]] => if -1000 ≤ m∧m ≤ 1000 then some (G s m) else none
 | _ => none
theorem drw1_eq {code:List Int} {G:(Nat × Int)→Int→List Res × (Nat × Int)} {s:Nat × Int} (h:s.1 ≤ code.length) {m:Int} (hm:-1000 ≤ m∧m ≤ 1000):drwG code (drw1 G) 3 [srcD code s] [[.int m]] = some ((G s m).1,[srcD code (G s m).2]):=by
 rw [drwG_eq h]
 show Option.map _ (if -1000 ≤ m∧m ≤ 1000 then some (G s m) else none) = _
 rw [if_pos hm];rfl
theorem drw1_of {P:Program} {f:FuncId} {code:List Int} {G:(Nat × Int)→Int→List Res × (Nat × Int)} (h:∀ s m,s.1 ≤ code.length→-1000 ≤ m→m ≤ 1000→AEp P f true 3 [srcD code s] [[.int m]] (fun r x => r = (G s m).1∧x = [srcD code (G s m).2])):DrawsE P f code (drw1 G):=by
 intro s post rs s' hs hp
 unfold drw1 at hp
 split at hp
 ·rename_i m
  split at hp
  ·rename_i hm
   have e:=Option.some.inj hp
   have e1:rs = (G s m).1:=by rw [e]
   have e2:s' = (G s m).2:=by rw [e]
   subst e1;subst e2
   exact h s m hs hm.1 hm.2
  ·cases hp
 ·cases hp
noncomputable def drwL (G:(Nat × Int)→List Int→List Res × (Nat × Int)) (s:Nat × Int) (post:List (List D)):Option (List Res × (Nat × Int)):=by
 classical
 exact if h:∃ l:List Int,l ≠ []∧l.length ≤ 1000∧post = [[.sl 1 (l.map eI)]] then some (G s h.choose) else none
theorem drwL_of {P:Program} {f:FuncId} {code:List Int} {G:(Nat × Int)→List Int→List Res × (Nat × Int)} (h:∀ s l,s.1 ≤ code.length→l ≠ []→l.length ≤ 1000→AEp P f true 3 [srcD code s] [[.sl 1 (l.map eI)]] (fun r x => r = (G s l).1∧x = [srcD code (G s l).2])):DrawsE P f code (drwL G):=by
 intro s post rs s' hs hp
 unfold drwL at hp
 split at hp
 ·rename_i hx
  obtain ⟨h0,h1,h2⟩:=hx.choose_spec
  have e:=Option.some.inj hp
  have e1:rs = (G s hx.choose).1:=by rw [e]
  have e2:s' = (G s hx.choose).2:=by rw [e]
  rw [h2,e1,e2]
  exact h s _ hs h0 h1
 ·cases hp
def pickF (code:List Int) (s:Nat × Int) (l:List Int):Int × (Nat × Int):=(l.getD (nxtF code s l.length).1.toNat 0,(nxtF code s l.length).2)
def pickG (code:List Int) (s:Nat × Int) (l:List Int):List Res × (Nat × Int):=([.val (.int (pickF code s l).1)],(pickF code s l).2)
set_option maxRecDepth 20000 in
set_option maxHeartbeats 16000000 in
theorem p_l01Pick {code:List Int} (hc:Bytes code) (hl:code.length ≤ 1000000000):DrawsE Try.prog 92 code (drwL (pickG code)):=by
 refine drwL_of fun s l hs h0 h1 => ?_
 have hpin:=nxt_l01Next hc hl
 have hlp:0 < l.length:=List.length_pos_iff.2 h0
 have hdr:=nxtE_eq code s l.length hs
 have hbd:=nxtF_bd hc s l.length
 unfold pickG pickF
 obtain ⟨⟨i,s1⟩,hp⟩:∃ p,p = nxtF code s l.length:=⟨_,rfl⟩
 rw [← hp] at hdr hbd ⊢
 simp only [eI] at hdr hbd ⊢
 have hlm:(l.map eI).length = l.length:=List.length_map _
 have i1:((0:Int) ≤ i) = True:=eq_true (by omega)
 have i2:(i < (l.length:Int)) = True:=eq_true (by omega)
 have hil:i.toNat < l.length:=by omega
 have hg:(l.map eI)[i.toNat]? = some [.int (l.getD i.toNat 0)]:=by rw [List.getElem?_map,List.getElem?_eq_getElem hil,List.getD_eq_getElem?_getD,List.getElem?_eq_getElem hil];rfl
 refine AEp.of_runs (cfg_ok 12) Try.func92 rfl rfl rfl (fun _ => rfl) (by simp only [List.length_cons,List.length_nil];decide) ?_
 have hres:Try.f92.results.toList = [.tmp 4]:=rfl
 have hrts:Try.f92.resultTypes.toList = [2]:=rfl
 simp only [List.length_cons,List.length_nil,ownArg,if_true,argRegs,argAV1,eL,eI,eLL,eB,Nat.zero_add,Nat.reduceAdd]
 intro M og cap
 refine RunK.of ?_
 repeat' (first|with_reducible (first|refine Q1 ?_|refine Q2 ?_|refine Q3 ?_|refine Q4 ?_|refine Q5 ?_|refine Q6 ?_|refine Q7 ?_|refine Q8 ?_|refine Q9 ?_|refine Qa ?_|refine Qb ?_|refine Qc ?_|refine Qd ?_|refine Qe ?_|refine Qf ?_)|((with_reducible refine Qo ?_ ?_);focus rfl)|((with_reducible first|refine QT 5 (l:=?_) ?_ ?_|refine QF 5 (l:=?_) ?_ ?_);rotate_left 1;focus (simp only [Zu,Nat.reduceSub,Nat.reduceBEq];with_reducible rfl))|((with_reducible first|refine QS (cfg_ok 12) (Tab.none.pin 108 (nxtE code) hpin) (s':=?_) ?_ ?_|refine QC (b:=?_) ?_ ?_);rotate_left 1;focus ((with_reducible refine QW ?_);simp only [Zg,seval,if_true,if_false,reduceCtorEq,Nat.reduceEqDiff,hdr,nxtE,i1,i2,hlm,hg];with_reducible rfl)))
 (refine EndsP.mk (by simp) (rs:=?_) (ks:=?_) (xs':=?_) hres hrts ?_ ?_ ?_ ?_ ?_;rotate_left 3;(focus (simp only [Ze,Zg,seval,if_true,if_false,reduceCtorEq,Nat.reduceEqDiff];with_reducible rfl));(focus simp);(focus simp);(focus (simp only [look,Nat.reduceEqDiff,Nat.reduceBEq,if_true,if_false];rfl));focus (first|exact ⟨rfl,rfl⟩|exact ⟨rfl,rfl,rfl⟩|skip))
def growD (code:List Int):Nat→(Nat × Int)→List Int→List Int × (Nat × Int)
 | 0,s,t => (t,s)
 | k + 1,s,t => growD code k (nxtF code s (t.getLastD 0 + 1)).2 (t ++ [1 + (nxtF code s (t.getLastD 0 + 1)).1])
def drawF (code:List Int) (s:Nat × Int) (m:Int):List Int × (Nat × Int):=growD code (nxtF code s m).1.toNat (nxtF code s m).2 [0]
structure TOk (n:Nat) (t:List Int):Prop where
 pos:t ≠ []
 lev:LevP t
 len:t.length ≤ n
 bd:∀ x ∈ t,0 ≤ x∧x < t.length
theorem getLastD_mem {t:List Int} (h:t ≠ []):t.getLastD 0 ∈ t:=by
 cases t with
 | nil => exact absurd rfl h
 | cons a t => rw [List.getLastD_cons];exact (by cases t <;> simp [List.getLastD])
theorem getLastD_getD {t:List Int} (h:t ≠ []):t.getLastD 0 = t.getD (t.length - 1) 0:=by
 rw [List.getD_eq_getElem?_getD,← List.getLast?_eq_getElem?]
 cases t with
 | nil => exact absurd rfl h
 | cons a t => rw [List.getLast?_cons,List.getLastD_cons,← List.getLastD_eq_getLast?];rfl
theorem growD_ok {code:List Int} (hc:Bytes code):∀ (k:Nat) {s:Nat × Int} {t:List Int} {n:Nat},TOk n t→s.1 ≤ code.length→TOk (n + k) (growD code k s t).1∧(growD code k s t).2.1 ≤ code.length
 | 0,_,_,_,h,hs => ⟨h,hs⟩
 | k + 1,s,t,n,h,hs => by
  have hl:=h.bd _ (getLastD_mem h.pos)
  have hb:=nxtF_bd hc s (t.getLastD 0 + 1)
  have h1:TOk (n + 1) (t ++ [1 + (nxtF code s (t.getLastD 0 + 1)).1]):=⟨by simp,h.lev.snoc (by omega) (by rw [← getLastD_getD h.pos];omega),by have:=h.len;simp;omega,fun x hx => by
   rw [List.length_append,List.length_singleton]
   rcases List.mem_append.1 hx with hx|hx
   ·have:=h.bd x hx;omega
   ·rw [List.mem_singleton] at hx;subst hx;omega⟩
  have:=growD_ok hc k h1 (nxtF_at (n:=t.getLastD 0 + 1) hs)
  rw [show n + (k + 1) = n + 1 + k by omega]
  exact this
theorem drawF_ok {code:List Int} (hc:Bytes code) {s:Nat × Int} {m:Int} (hs:s.1 ≤ code.length):TOk (1 + m.toNat) (drawF code s m).1∧(drawF code s m).2.1 ≤ code.length:=by
 have hb:=nxtF_bd hc s m
 have h:=growD_ok hc (nxtF code s m).1.toNat (s:=(nxtF code s m).2) (t:=[0]) (n:=1) ⟨by simp,by decide,by simp,by simp⟩ (nxtF_at hs)
 exact ⟨⟨h.1.pos,h.1.lev,Nat.le_trans h.1.len (by omega),h.1.bd⟩,h.2⟩
def drawG (code:List Int) (s:Nat × Int) (m:Int):List Res × (Nat × Int):=([.own 1 ((drawF code s m).1.map eI) true],(drawF code s m).2)
set_option maxRecDepth 20000 in
set_option maxHeartbeats 16000000 in
theorem p_l03Draw {code:List Int} (hc:Bytes code) (hl:code.length ≤ 1000000000):DrawsE Try.prog 152 code (drw1 (drawG code)):=by
 refine drw1_of fun s m hs hm1 hm2 => ?_
 have hpin:=nxt_l01Next hc hl
 have hdr:=nxtE_eq code s m hs
 have hbd:=nxtF_bd hc s m
 have hat:=nxtF_at (n:=m) hs
 unfold drawG drawF
 obtain ⟨⟨kk,s1⟩,hp⟩:∃ p,p = nxtF code s m:=⟨_,rfl⟩
 rw [← hp] at hdr hbd hat ⊢
 simp only at hdr hbd hat ⊢
 obtain ⟨k,rfl⟩:∃ k:Nat,kk = k:=⟨kk.toNat,by omega⟩
 rw [Int.toNat_natCast]
 have hk:k ≤ 1000:=by omega
 simp only [eI] at hdr
 refine AEp.of_runs (cfg_ok 29) Try.func152 rfl rfl rfl (fun _ => rfl) (by simp only [List.length_cons,List.length_nil];decide) ?_
 have hres:Try.f152.results.toList = [.tmp 4]:=rfl
 have hrts:Try.f152.resultTypes.toList = [24]:=rfl
 simp only [List.length_cons,List.length_nil,ownArg,if_true,argRegs,argAV1,eL,eI,eLL,eB,Nat.zero_add,Nat.reduceAdd]
 intro M og cap
 refine RunK.of ?_
 repeat' (first|with_reducible (first|refine Q1 ?_|refine Q2 ?_|refine Q3 ?_|refine Q4 ?_|refine Q5 ?_|refine Q6 ?_|refine Q7 ?_|refine Q8 ?_|refine Q9 ?_|refine Qa ?_|refine Qb ?_|refine Qc ?_|refine Qd ?_|refine Qe ?_|refine Qf ?_)|((with_reducible refine Qo ?_ ?_);focus rfl)|((with_reducible first|refine QT 7 (l:=?_) ?_ ?_|refine QF 7 (l:=?_) ?_ ?_);rotate_left 1;focus (simp only [Zu,Nat.reduceSub,Nat.reduceBEq];with_reducible rfl))|((with_reducible first|refine QS (cfg_ok 29) (Tab.none.pin 108 (nxtE code) hpin) (s':=?_) ?_ ?_|refine QC (b:=?_) ?_ ?_);rotate_left 1;focus ((with_reducible refine QW ?_);simp only [Zg,seval,if_true,if_false,reduceCtorEq,Nat.reduceEqDiff,hdr,nxtE];with_reducible rfl)))
 refine RunK.loop (β:=Nat × (Nat × Int) × List Int) (γ:=List Int × (Nat × Int)) (fun x => ⟨[(0,.optr 0 0 0),(5,.c (.own 5 x.2.2.length)),(6,.c (.val (.int x.1)))],[(0,.pin og cap 3 [srcD code x.2.1]),(5,.row 1 (x.2.2.map eI) true)]⟩)
  (fun x => x.1 ≤ k∧x.2.1.1 ≤ code.length∧TOk (1 + (k - x.1)) x.2.2∧growD code x.1 x.2.1 x.2.2 = growD code k s1 [0]) (fun x => x.1)
  (fun z => ⟨[(0,.optr 0 0 0),(5,.c (.own 5 z.1.length))],[(0,.pin og cap 3 [srcD code z.2]),(5,.row 1 (z.1.map eI) true)]⟩) (fun z => z = growD code k s1 [0]) (k,s1,[0]) ⟨Nat.le_refl _,hat,⟨by simp,by show LevP [0];decide,by simp,by simp⟩,rfl⟩ ?_ ?_ ?_
 ·(repeat' (first|with_reducible refine Qn|((with_reducible refine Qr ?_ ?_);focus (first|with_reducible rfl|(simp only [Zz,Nat.reduceBEq];done)|rfl))|((with_reducible refine Qj (o':=?_) ?_ ?_ ?_);rotate_left 1;focus rfl)|((with_reducible refine Qw ?_ ?_);(focus (first|with_reducible rfl|(simp only [Zv];done)));focus (first|exact id|exact (fun h => nomatch h)|exact (fun _ => rfl)))))
  all_goals first|exact ⟨rfl,rfl⟩|exact ⟨rfl,rfl,id⟩|exact ⟨rfl,rfl,rfl,rfl⟩
 ·rintro ⟨j,s,t⟩ ⟨hj,hs,ht,hgr⟩
  simp only at hj hs ht hgr
  by_cases h0:0 < j
  ·obtain ⟨j,rfl⟩:∃ i,j = i + 1:=⟨j - 1,by omega⟩
   have i1:(((j + 1:Nat):Int) > 0) = True:=eq_true (by omega)
   have hlb:=ht.bd _ (getLastD_mem ht.pos)
   have htl:=ht.len
   have htp:0 < t.length:=List.length_pos_iff.2 ht.pos
   have hdr:=nxtE_eq code s (t.getLastD 0 + 1) hs
   have hbd:=nxtF_bd hc s (t.getLastD 0 + 1)
   have hat:=nxtF_at (n:=t.getLastD 0 + 1) hs
   have hgr:growD code j (nxtF code s (t.getLastD 0 + 1)).2 (t ++ [1 + (nxtF code s (t.getLastD 0 + 1)).1]) = growD code k s1 [0]:=hgr
   have hnext:=(growD_ok hc 1 ht hs).1
   have hnext:TOk (1 + (k - (j + 1)) + 1) (t ++ [1 + (nxtF code s (t.getLastD 0 + 1)).1]):=hnext
   obtain ⟨⟨x,s2⟩,hp⟩:∃ p,p = nxtF code s (t.getLastD 0 + 1):=⟨_,rfl⟩
   rw [← hp] at hdr hbd hat hgr hnext
   simp only at hdr hbd hat hgr hnext
   simp only [eI] at hdr
   have hlm:(t.map eI).length = t.length:=List.length_map _
   have i2:((0:Int) ≤ (t.length:Int) - 1) = True:=eq_true (by omega)
   have i3:((t.length:Int) - 1 < (t.length:Int)) = True:=eq_true (by omega)
   have w1:w64 ((t.length:Int) - 1) = (t.length:Int) - 1:=w64_eq (by omega)
   have w2:w64 (t.getLastD 0 + 1) = t.getLastD 0 + 1:=w64_eq (by omega)
   have w3:w64 (1 + x) = 1 + x:=w64_eq (by omega)
   have w4:w64 (((j + 1:Nat):Int) - 1) = j:=by rw [w64_eq (by omega)];omega
   have hg:(t.map eI)[((t.length:Int) - 1).toNat]? = some [.int (t.getLastD 0)]:=by
    have e:((t.length:Int) - 1).toNat = t.length - 1:=by omega
    rw [e,List.getElem?_map,← List.getLast?_eq_getElem?]
    cases t with
    | nil => exact absurd rfl ht.pos
    | cons a t => rw [List.getLast?_cons,List.getLastD_cons,← List.getLastD_eq_getLast?];rfl
   have q1:=big_le (n:=t.length + 1) (by omega)
   have q2:=big_mul (n:=t.length + 1) (c:=8) (by omega) (by omega)
   repeat' (first|with_reducible (first|refine Q1 ?_|refine Q2 ?_|refine Q3 ?_|refine Q4 ?_|refine Q5 ?_|refine Q6 ?_|refine Q7 ?_|refine Q8 ?_|refine Q9 ?_|refine Qa ?_|refine Qb ?_|refine Qc ?_|refine Qd ?_|refine Qe ?_|refine Qf ?_)|((with_reducible refine Qo ?_ ?_);focus rfl)|((with_reducible first|refine QT 7 (l:=?_) ?_ ?_|refine QF 7 (l:=?_) ?_ ?_);rotate_left 1;focus (simp only [Zu,Nat.reduceSub,Nat.reduceBEq];with_reducible rfl))|((with_reducible first|refine QS (cfg_ok 29) (Tab.none.pin 108 (nxtE code) hpin) (s':=?_) ?_ ?_|refine QC (b:=?_) ?_ ?_);rotate_left 1;focus ((with_reducible refine QW ?_);simp only [Zg,seval,if_true,if_false,reduceCtorEq,Nat.reduceEqDiff,hdr,nxtE,i1,i2,i3,w1,w2,w3,w4,hg,hlm,q1,q2];with_reducible rfl)))
   refine roundK.on (j,s2,t ++ [1 + x]) ⟨⟨by omega,hat,by rw [show 1 + (k - j) = 1 + (k - (j + 1)) + 1 by omega];exact hnext,hgr⟩,by simp⟩ ?_
   (repeat' (first|with_reducible refine Qn|((with_reducible refine Qr ?_ ?_);focus (first|with_reducible rfl|(simp only [Zz,Nat.reduceBEq,List.map_append,List.map_cons,List.map_nil,List.length_append,List.length_singleton,eI];done)|rfl))|((with_reducible refine Qj (o':=?_) ?_ ?_ ?_);rotate_left 1;focus rfl)|((with_reducible refine Qw ?_ ?_);(focus (first|with_reducible rfl|(simp only [Zv,List.map_append,List.map_cons,List.map_nil,List.length_append,List.length_singleton,eI];done)));focus (first|exact id|exact (fun h => nomatch h)|exact (fun _ => rfl)))))
   all_goals first|exact ⟨rfl,rfl⟩|exact ⟨rfl,rfl,id⟩|exact ⟨rfl,rfl,rfl,rfl⟩
  ·obtain rfl:j = 0:=by omega
   have i1:(((0:Nat):Int) > 0) = False:=eq_false (by omega)
   repeat' (first|with_reducible (first|refine Q1 ?_|refine Q2 ?_|refine Q3 ?_|refine Q4 ?_|refine Q5 ?_|refine Q6 ?_|refine Q7 ?_|refine Q8 ?_|refine Q9 ?_|refine Qa ?_|refine Qb ?_|refine Qc ?_|refine Qd ?_|refine Qe ?_|refine Qf ?_)|((with_reducible refine Qo ?_ ?_);focus rfl)|((with_reducible first|refine QT 7 (l:=?_) ?_ ?_|refine QF 7 (l:=?_) ?_ ?_);rotate_left 1;focus (simp only [Zu,Nat.reduceSub,Nat.reduceBEq];with_reducible rfl))|((with_reducible first|refine QS (cfg_ok 29) Tab.none (s':=?_) ?_ ?_|refine QC (b:=?_) ?_ ?_);rotate_left 1;focus ((with_reducible refine QW ?_);simp only [Zg,seval,if_true,if_false,reduceCtorEq,Nat.reduceEqDiff,i1];with_reducible rfl)))
   refine roundK.out (t,s) hgr ?_
   (repeat' (first|with_reducible refine Qn|((with_reducible refine Qr ?_ ?_);focus (first|with_reducible rfl|(simp only [Zz,Nat.reduceBEq];done)|rfl))|((with_reducible refine Qj (o':=?_) ?_ ?_ ?_);rotate_left 1;focus rfl)|((with_reducible refine Qw ?_ ?_);(focus (first|with_reducible rfl|(simp only [Zv];done)));focus (first|exact id|exact (fun h => nomatch h)|exact (fun _ => rfl)))))
   all_goals first|exact ⟨rfl,rfl⟩|exact ⟨rfl,rfl,id⟩|exact ⟨rfl,rfl,rfl,rfl⟩
 rintro z rfl
 repeat' (first|with_reducible (first|refine Q1 ?_|refine Q2 ?_|refine Q3 ?_|refine Q4 ?_|refine Q5 ?_|refine Q6 ?_|refine Q7 ?_|refine Q8 ?_|refine Q9 ?_|refine Qa ?_|refine Qb ?_|refine Qc ?_|refine Qd ?_|refine Qe ?_|refine Qf ?_)|((with_reducible refine Qo ?_ ?_);focus rfl)|((with_reducible first|refine QT 7 (l:=?_) ?_ ?_|refine QF 7 (l:=?_) ?_ ?_);rotate_left 1;focus (simp only [Zu,Nat.reduceSub,Nat.reduceBEq];with_reducible rfl))|((with_reducible first|refine QS (cfg_ok 29) Tab.none (s':=?_) ?_ ?_|refine QC (b:=?_) ?_ ?_);rotate_left 1;focus ((with_reducible refine QW ?_);simp only [Zg,seval,if_true,if_false,reduceCtorEq,Nat.reduceEqDiff];with_reducible rfl)))
 (refine EndsP.mk (by simp) (rs:=?_) (ks:=?_) (xs':=?_) hres hrts ?_ ?_ ?_ ?_ ?_;rotate_left 3;(focus (simp only [Ze,Zg,seval,if_true,if_false,reduceCtorEq,Nat.reduceEqDiff];with_reducible rfl));(focus simp);(focus simp);(focus (simp only [look,Nat.reduceEqDiff,Nat.reduceBEq,if_true,if_false];rfl));focus (first|exact ⟨rfl,rfl⟩|exact ⟨rfl,rfl,rfl⟩|skip))
def drawAnyF (code:List Int) (s:Nat × Int) (m:Int):List Int × (Nat × Int) :=
 let p:=drawF code s m
 let c:=nxtF code p.2 24
 if c.1 = 0 then
  let i:=nxtF code c.2 p.1.length
  let v:=nxtF code i.2 6
  (p.1.set i.1.toNat (v.1 - 1),v.2)
 else if c.1 = 1 then ([],c.2)
 else if c.1 = 2 then (p.1 ++ List.replicate 8 1,c.2)
 else (p.1,c.2)
structure AOk (n:Nat) (t:List Int):Prop where
 len:t.length ≤ n
 bd:∀ x ∈ t,-1 ≤ x∧x ≤ n
theorem drawAnyF_ok {code:List Int} (hc:Bytes code) {s:Nat × Int} {m:Int} (hs:s.1 ≤ code.length):AOk (9 + m.toNat) (drawAnyF code s m).1∧(drawAnyF code s m).2.1 ≤ code.length:=by
 obtain ⟨h1,h2⟩:=drawF_ok hc (m:=m) hs
 unfold drawAnyF
 obtain ⟨p,hp⟩:∃ p,p = drawF code s m:=⟨_,rfl⟩
 rw [← hp] at h1 h2 ⊢
 simp only
 have hl:=h1.len
 have ha:AOk (9 + m.toNat) p.1:=⟨by omega,fun x hx => by have:=h1.bd x hx;omega⟩
 have h3:=nxtF_at (n:=24) h2
 have hcb:=nxtF_bd hc p.2 24
 obtain ⟨c,hcd⟩:∃ c,c = nxtF code p.2 24:=⟨_,rfl⟩
 rw [← hcd] at h3 hcb ⊢
 split
 ·have h4:=nxtF_at (n:=(p.1.length:Int)) h3
  have h5:=nxtF_at (n:=6) h4
  have h6:=nxtF_bd hc (nxtF code c.2 p.1.length).2 6
  refine ⟨⟨by simp;omega,fun x hx => ?_⟩,h5⟩
  rcases List.mem_or_eq_of_mem_set hx with hx|hx
  ·exact ha.bd x hx
  ·omega
 ·split
  ·exact ⟨⟨by simp,by simp⟩,h3⟩
  ·split
   ·refine ⟨⟨by simp;omega,fun x hx => ?_⟩,h3⟩
    rcases List.mem_append.1 hx with hx|hx
    ·exact ha.bd x hx
    ·rw [List.eq_of_mem_replicate hx];omega
   ·exact ⟨ha,h3⟩
def drawAnyG (code:List Int) (s:Nat × Int) (m:Int):List Res × (Nat × Int):=([.own 1 ((drawAnyF code s m).1.map eI) true],(drawAnyF code s m).2)
set_option maxRecDepth 20000 in
set_option maxHeartbeats 16000000 in
theorem p_l03DrawAny {code:List Int} (hc:Bytes code) (hl:code.length ≤ 1000000000):DrawsE Try.prog 91 code (drw1 (drawAnyG code)):=by
 refine drw1_of fun s m hs hm1 hm2 => ?_
 have hpin:=nxt_l01Next hc hl
 have hdw:=(p_l03Draw hc hl).ok
 have hdt:drwG code (drw1 (drawG code)) 3 [srcD code s] [[.int m]] = some ([.own 1 ((drawF code s m).1.map eI) true],[srcD code (drawF code s m).2]):=drw1_eq hs ⟨hm1,hm2⟩
 obtain ⟨h1,h2⟩:=drawF_ok hc (m:=m) hs
 have hdr:=nxtE_eq code (drawF code s m).2 24 h2
 have hbd:=nxtF_bd hc (drawF code s m).2 24
 have hat:=nxtF_at (n:=24) h2
 unfold drawAnyG drawAnyF
 obtain ⟨⟨t,s1⟩,hp⟩:∃ p,p = drawF code s m:=⟨_,rfl⟩
 rw [← hp] at h1 h2 hdr hbd hat hdt ⊢
 simp only at h1 h2 hdr hbd hat hdt ⊢
 obtain ⟨⟨c,s2⟩,hq⟩:∃ p,p = nxtF code s1 24:=⟨_,rfl⟩
 rw [← hq] at hdr hbd hat ⊢
 simp only at hdr hbd hat ⊢
 have htl:=h1.len
 have htp:0 < t.length:=List.length_pos_iff.2 h1.pos
 have hlm:(t.map eI).length = t.length:=List.length_map _
 simp only [eI] at hdr
 by_cases c0:c = 0
 ·subst c0
  have hdr2:=nxtE_eq code s2 t.length hat
  have hbd2:=nxtF_bd hc s2 t.length
  have hat2:=nxtF_at (n:=(t.length:Int)) hat
  obtain ⟨⟨i,s3⟩,hq2⟩:∃ p,p = nxtF code s2 t.length:=⟨_,rfl⟩
  rw [← hq2] at hdr2 hbd2 hat2 ⊢
  simp only at hdr2 hbd2 hat2 ⊢
  have hdr3:=nxtE_eq code s3 6 hat2
  have hbd3:=nxtF_bd hc s3 6
  obtain ⟨⟨v,s4⟩,hq3⟩:∃ p,p = nxtF code s3 6:=⟨_,rfl⟩
  rw [← hq3] at hdr3 hbd3 ⊢
  simp only [eI,if_true] at hdr2 hdr3 hbd3 ⊢
  have i1:((0:Int) ≤ i) = True:=eq_true (by omega)
  have i2:(i < (t.length:Int)) = True:=eq_true (by omega)
  have w1:w64 (v - 1) = v - 1:=w64_eq (by omega)
  have hst:(t.set i.toNat (v - 1)).map eI = (t.map eI).set i.toNat [.int (v - 1)]:=by rw [List.map_set];rfl
  have hil:i.toNat < t.length:=by omega
  have hg:(t.map eI)[i.toNat]? = some [.int t[i.toNat]]:=by rw [List.getElem?_map,List.getElem?_eq_getElem hil];rfl
  rw [hst]
  refine AEp.of_runs (cfg_ok 35) Try.func91 rfl rfl rfl (fun _ => rfl) (by simp only [List.length_cons,List.length_nil];decide) ?_
  have hres:Try.f91.results.toList = [.tmp 4]:=rfl
  have hrts:Try.f91.resultTypes.toList = [24]:=rfl
  simp only [List.length_cons,List.length_nil,ownArg,if_true,argRegs,argAV1,eL,eI,eLL,eB,Nat.zero_add,Nat.reduceAdd]
  intro M og cap
  refine RunK.of ?_
  repeat' (first|with_reducible (first|refine Q1 ?_|refine Q2 ?_|refine Q3 ?_|refine Q4 ?_|refine Q5 ?_|refine Q6 ?_|refine Q7 ?_|refine Q8 ?_|refine Q9 ?_|refine Qa ?_|refine Qb ?_|refine Qc ?_|refine Qd ?_|refine Qe ?_|refine Qf ?_)|((with_reducible refine Qo ?_ ?_);focus rfl)|((with_reducible first|refine QT 12 (l:=?_) ?_ ?_|refine QF 12 (l:=?_) ?_ ?_);rotate_left 1;focus (simp only [Zu,Nat.reduceSub,Nat.reduceBEq];with_reducible rfl))|((with_reducible first|refine QS (cfg_ok 35) ((Tab.none.pin 108 (nxtE code) hpin).pin 152 (drwE code (drw1 (drawG code))) hdw) (s':=?_) ?_ ?_|refine QC (b:=?_) ?_ ?_);rotate_left 1;focus ((with_reducible refine QW ?_);simp only [Zg,seval,if_true,if_false,reduceCtorEq,Nat.reduceEqDiff,hdr,hdr2,hdr3,hdt,nxtE,drwE,i1,i2,w1,hlm,hg];with_reducible rfl)))
  (refine EndsP.mk (by simp) (rs:=?_) (ks:=?_) (xs':=?_) hres hrts ?_ ?_ ?_ ?_ ?_;rotate_left 3;(focus (simp only [Ze,Zg,seval,if_true,if_false,reduceCtorEq,Nat.reduceEqDiff];with_reducible rfl));(focus simp);(focus simp);(focus (simp only [look,Nat.reduceEqDiff,Nat.reduceBEq,if_true,if_false];rfl));focus (first|exact ⟨rfl,rfl⟩|exact ⟨rfl,rfl,rfl⟩|skip))
 ·have e0:(c == 0) = false:=by simp [c0]
  by_cases c1:c = 1
  ·subst c1
   rw [if_neg c0,if_pos rfl]
   refine AEp.of_runs (cfg_ok 35) Try.func91 rfl rfl rfl (fun _ => rfl) (by simp only [List.length_cons,List.length_nil];decide) ?_
   have hres:Try.f91.results.toList = [.tmp 4]:=rfl
   have hrts:Try.f91.resultTypes.toList = [24]:=rfl
   simp only [List.length_cons,List.length_nil,ownArg,if_true,argRegs,argAV1,eL,eI,eLL,eB,Nat.zero_add,Nat.reduceAdd]
   intro M og cap
   refine RunK.of ?_
   repeat' (first|with_reducible (first|refine Q1 ?_|refine Q2 ?_|refine Q3 ?_|refine Q4 ?_|refine Q5 ?_|refine Q6 ?_|refine Q7 ?_|refine Q8 ?_|refine Q9 ?_|refine Qa ?_|refine Qb ?_|refine Qc ?_|refine Qd ?_|refine Qe ?_|refine Qf ?_)|((with_reducible refine Qo ?_ ?_);focus rfl)|((with_reducible first|refine QT 12 (l:=?_) ?_ ?_|refine QF 12 (l:=?_) ?_ ?_);rotate_left 1;focus (simp only [Zu,Nat.reduceSub,Nat.reduceBEq];with_reducible rfl))|((with_reducible first|refine QS (cfg_ok 35) ((Tab.none.pin 108 (nxtE code) hpin).pin 152 (drwE code (drw1 (drawG code))) hdw) (s':=?_) ?_ ?_|refine QC (b:=?_) ?_ ?_);rotate_left 1;focus ((with_reducible refine QW ?_);simp only [Zg,seval,if_true,if_false,reduceCtorEq,Nat.reduceEqDiff,hdr,hdt,nxtE,drwE,e0,hlm];with_reducible rfl)))
   (refine EndsP.mk (by simp) (rs:=?_) (ks:=?_) (xs':=?_) hres hrts ?_ ?_ ?_ ?_ ?_;rotate_left 3;(focus (simp only [Ze,Zg,seval,if_true,if_false,reduceCtorEq,Nat.reduceEqDiff];with_reducible rfl));(focus simp);(focus simp);(focus (simp only [look,Nat.reduceEqDiff,Nat.reduceBEq,if_true,if_false];rfl));focus (first|exact ⟨rfl,rfl⟩|exact ⟨rfl,rfl,rfl⟩|skip))
  ·by_cases c2:c = 2
   ·subst c2
    rw [if_neg c0,if_neg c1,if_pos rfl]
    refine AEp.of_runs (cfg_ok 35) Try.func91 rfl rfl rfl (fun _ => rfl) (by simp only [List.length_cons,List.length_nil];decide) ?_
    have hres:Try.f91.results.toList = [.tmp 4]:=rfl
    have hrts:Try.f91.resultTypes.toList = [24]:=rfl
    simp only [List.length_cons,List.length_nil,ownArg,if_true,argRegs,argAV1,eL,eI,eLL,eB,Nat.zero_add,Nat.reduceAdd]
    intro M og cap
    refine RunK.of ?_
    repeat' (first|with_reducible (first|refine Q1 ?_|refine Q2 ?_|refine Q3 ?_|refine Q4 ?_|refine Q5 ?_|refine Q6 ?_|refine Q7 ?_|refine Q8 ?_|refine Q9 ?_|refine Qa ?_|refine Qb ?_|refine Qc ?_|refine Qd ?_|refine Qe ?_|refine Qf ?_)|((with_reducible refine Qo ?_ ?_);focus rfl)|((with_reducible first|refine QT 12 (l:=?_) ?_ ?_|refine QF 12 (l:=?_) ?_ ?_);rotate_left 1;focus (simp only [Zu,Nat.reduceSub,Nat.reduceBEq];with_reducible rfl))|((with_reducible first|refine QS (cfg_ok 35) ((Tab.none.pin 108 (nxtE code) hpin).pin 152 (drwE code (drw1 (drawG code))) hdw) (s':=?_) ?_ ?_|refine QC (b:=?_) ?_ ?_);rotate_left 1;focus ((with_reducible refine QW ?_);simp only [Zg,seval,if_true,if_false,reduceCtorEq,Nat.reduceEqDiff,hdr,hdt,nxtE,drwE,e0,hlm];with_reducible rfl)))
    refine RunK.loop (β:=Nat) (γ:=Unit) (fun j => ⟨[(0,.optr 0 0 0),(5,.c (.own 5 (t.length + j))),(6,.c (.val (.int j)))],[(0,.pin og cap 3 [srcD code s2]),(5,.row 1 ((t ++ List.replicate j 1).map eI) true)]⟩) (fun j => j ≤ 8) (fun j => 8 - j)
     (fun _ => ⟨[(0,.optr 0 0 0),(5,.c (.own 5 (t.length + 8)))],[(0,.pin og cap 3 [srcD code s2]),(5,.row 1 ((t ++ List.replicate 8 1).map eI) true)]⟩) (fun _ => True) 0 (Nat.zero_le _) ?_ ?_ ?_
    ·(repeat' (first|with_reducible refine Qn|((with_reducible refine Qr ?_ ?_);focus (first|with_reducible rfl|(simp only [Zz,Nat.reduceBEq,Nat.add_zero,List.replicate_zero,List.append_nil,Int.natCast_zero];done)|rfl))|((with_reducible refine Qj (o':=?_) ?_ ?_ ?_);rotate_left 1;focus rfl)|((with_reducible refine Qw ?_ ?_);(focus (first|with_reducible rfl|(simp only [Zv,Nat.add_zero,List.replicate_zero,List.append_nil,Int.natCast_zero];done)));focus (first|exact id|exact (fun h => nomatch h)|exact (fun _ => rfl)))))
     all_goals first|exact ⟨rfl,rfl⟩|exact ⟨rfl,rfl,id⟩|exact ⟨rfl,rfl,rfl,rfl⟩
    ·intro j hj
     have hj:j ≤ 8:=hj
     have hw:=w64_succ (n:=j) (by omega)
     by_cases hj8:j < 8
     ·have j1:((j:Int) < 8) = True:=eq_true (by omega)
      have hrl:((t ++ List.replicate j (1:Int)).map eI).length = t.length + j:=by simp
      have hrx:(t ++ List.replicate (j + 1) (1:Int)).map eI = (t ++ List.replicate j (1:Int)).map eI ++ [[.int 1]]:=by
       rw [List.replicate_succ',← List.append_assoc,List.map_append];rfl
      obtain ⟨R,hR⟩:∃ R,R = (t ++ List.replicate j (1:Int)).map eI:=⟨_,rfl⟩
      rw [← hR] at hrl hrx ⊢
      have q1:=big_le (n:=t.length + j + 1) (by omega)
      have q2:=big_mul (n:=t.length + j + 1) (c:=8) (by omega) (by omega)
      repeat' (first|with_reducible (first|refine Q1 ?_|refine Q2 ?_|refine Q3 ?_|refine Q4 ?_|refine Q5 ?_|refine Q6 ?_|refine Q7 ?_|refine Q8 ?_|refine Q9 ?_|refine Qa ?_|refine Qb ?_|refine Qc ?_|refine Qd ?_|refine Qe ?_|refine Qf ?_)|((with_reducible refine Qo ?_ ?_);focus rfl)|((with_reducible first|refine QT 12 (l:=?_) ?_ ?_|refine QF 12 (l:=?_) ?_ ?_);rotate_left 1;focus (simp only [Zu,Nat.reduceSub,Nat.reduceBEq];with_reducible rfl))|((with_reducible first|refine QS (cfg_ok 35) Tab.none (s':=?_) ?_ ?_|refine QC (b:=?_) ?_ ?_);rotate_left 1;focus ((with_reducible refine QW ?_);simp only [Zg,seval,if_true,if_false,reduceCtorEq,Nat.reduceEqDiff,j1,hw,hrl,q1,q2];with_reducible rfl)))
      refine roundK.on (j + 1) ⟨by omega,by omega⟩ ?_
      rw [hrx]
      (repeat' (first|with_reducible refine Qn|((with_reducible refine Qr ?_ ?_);focus (first|with_reducible rfl|(simp only [Zz,Nat.reduceBEq];done)|rfl))|((with_reducible refine Qj (o':=?_) ?_ ?_ ?_);rotate_left 1;focus rfl)|((with_reducible refine Qw ?_ ?_);(focus (first|with_reducible rfl|(simp only [Zv];done)));focus (first|exact id|exact (fun h => nomatch h)|exact (fun _ => rfl)))))
      all_goals first|exact ⟨rfl,rfl⟩|exact ⟨rfl,rfl,id⟩|exact ⟨rfl,rfl,rfl,rfl⟩
     ·obtain rfl:j = 8:=by omega
      have j1:(((8:Nat):Int) < 8) = False:=eq_false (by omega)
      repeat' (first|with_reducible (first|refine Q1 ?_|refine Q2 ?_|refine Q3 ?_|refine Q4 ?_|refine Q5 ?_|refine Q6 ?_|refine Q7 ?_|refine Q8 ?_|refine Q9 ?_|refine Qa ?_|refine Qb ?_|refine Qc ?_|refine Qd ?_|refine Qe ?_|refine Qf ?_)|((with_reducible refine Qo ?_ ?_);focus rfl)|((with_reducible first|refine QT 12 (l:=?_) ?_ ?_|refine QF 12 (l:=?_) ?_ ?_);rotate_left 1;focus (simp only [Zu,Nat.reduceSub,Nat.reduceBEq];with_reducible rfl))|((with_reducible first|refine QS (cfg_ok 35) Tab.none (s':=?_) ?_ ?_|refine QC (b:=?_) ?_ ?_);rotate_left 1;focus ((with_reducible refine QW ?_);simp only [Zg,seval,if_true,if_false,reduceCtorEq,Nat.reduceEqDiff,j1];with_reducible rfl)))
      refine roundK.out () trivial ?_
      (repeat' (first|with_reducible refine Qn|((with_reducible refine Qr ?_ ?_);focus (first|with_reducible rfl|(simp only [Zz,Nat.reduceBEq];done)|rfl))|((with_reducible refine Qj (o':=?_) ?_ ?_ ?_);rotate_left 1;focus rfl)|((with_reducible refine Qw ?_ ?_);(focus (first|with_reducible rfl|(simp only [Zv];done)));focus (first|exact id|exact (fun h => nomatch h)|exact (fun _ => rfl)))))
      all_goals first|exact ⟨rfl,rfl⟩|exact ⟨rfl,rfl,id⟩|exact ⟨rfl,rfl,rfl,rfl⟩
    rintro _ _
    repeat' (first|with_reducible (first|refine Q1 ?_|refine Q2 ?_|refine Q3 ?_|refine Q4 ?_|refine Q5 ?_|refine Q6 ?_|refine Q7 ?_|refine Q8 ?_|refine Q9 ?_|refine Qa ?_|refine Qb ?_|refine Qc ?_|refine Qd ?_|refine Qe ?_|refine Qf ?_)|((with_reducible refine Qo ?_ ?_);focus rfl)|((with_reducible first|refine QT 12 (l:=?_) ?_ ?_|refine QF 12 (l:=?_) ?_ ?_);rotate_left 1;focus (simp only [Zu,Nat.reduceSub,Nat.reduceBEq];with_reducible rfl))|((with_reducible first|refine QS (cfg_ok 35) Tab.none (s':=?_) ?_ ?_|refine QC (b:=?_) ?_ ?_);rotate_left 1;focus ((with_reducible refine QW ?_);simp only [Zg,seval,if_true,if_false,reduceCtorEq,Nat.reduceEqDiff];with_reducible rfl)))
    (refine EndsP.mk (by simp) (rs:=?_) (ks:=?_) (xs':=?_) hres hrts ?_ ?_ ?_ ?_ ?_;rotate_left 3;(focus (simp only [Ze,Zg,seval,if_true,if_false,reduceCtorEq,Nat.reduceEqDiff];with_reducible rfl));(focus simp);(focus simp);(focus (simp only [look,Nat.reduceEqDiff,Nat.reduceBEq,if_true,if_false];rfl));focus (first|exact ⟨rfl,rfl⟩|exact ⟨rfl,rfl,rfl⟩|skip))
   ·have e1:(c == 1) = false:=by simp [c1]
    have e2:(c == 2) = false:=by simp [c2]
    rw [if_neg c0,if_neg c1,if_neg c2]
    refine AEp.of_runs (cfg_ok 35) Try.func91 rfl rfl rfl (fun _ => rfl) (by simp only [List.length_cons,List.length_nil];decide) ?_
    have hres:Try.f91.results.toList = [.tmp 4]:=rfl
    have hrts:Try.f91.resultTypes.toList = [24]:=rfl
    simp only [List.length_cons,List.length_nil,ownArg,if_true,argRegs,argAV1,eL,eI,eLL,eB,Nat.zero_add,Nat.reduceAdd]
    intro M og cap
    refine RunK.of ?_
    repeat' (first|with_reducible (first|refine Q1 ?_|refine Q2 ?_|refine Q3 ?_|refine Q4 ?_|refine Q5 ?_|refine Q6 ?_|refine Q7 ?_|refine Q8 ?_|refine Q9 ?_|refine Qa ?_|refine Qb ?_|refine Qc ?_|refine Qd ?_|refine Qe ?_|refine Qf ?_)|((with_reducible refine Qo ?_ ?_);focus rfl)|((with_reducible first|refine QT 12 (l:=?_) ?_ ?_|refine QF 12 (l:=?_) ?_ ?_);rotate_left 1;focus (simp only [Zu,Nat.reduceSub,Nat.reduceBEq];with_reducible rfl))|((with_reducible first|refine QS (cfg_ok 35) ((Tab.none.pin 108 (nxtE code) hpin).pin 152 (drwE code (drw1 (drawG code))) hdw) (s':=?_) ?_ ?_|refine QC (b:=?_) ?_ ?_);rotate_left 1;focus ((with_reducible refine QW ?_);simp only [Zg,seval,if_true,if_false,reduceCtorEq,Nat.reduceEqDiff,hdr,hdt,nxtE,drwE,e0,e1,e2,hlm];with_reducible rfl)))
    (refine EndsP.mk (by simp) (rs:=?_) (ks:=?_) (xs':=?_) hres hrts ?_ ?_ ?_ ?_ ?_;rotate_left 3;(focus (simp only [Ze,Zg,seval,if_true,if_false,reduceCtorEq,Nat.reduceEqDiff];with_reducible rfl));(focus simp);(focus simp);(focus (simp only [look,Nat.reduceEqDiff,Nat.reduceBEq,if_true,if_false];rfl));focus (first|exact ⟨rfl,rfl⟩|exact ⟨rfl,rfl,rfl⟩|skip))
end Go.Proofs.Ytofpjonggpjneaa
namespace Go.Proofs.Ytofpjonggpjneaa
open Go.RowKit
def trsOf (n:Int):List (List Int) × Int:=if inR n 1 8 = true then (treesN n.toNat,0) else ([],2)
theorem inR_mem {n:Int} (h:inR n 1 8 = true):∃ k:Nat,n = k∧k ∈ [1,2,3,4,5,6,7,8]:=by
 unfold inR at h
 simp only [Bool.and_eq_true,decide_eq_true_eq] at h
 refine ⟨n.toNat,by omega,?_⟩
 have h1:1 ≤ n.toNat:=by omega
 have h2:n.toNat ≤ 8:=by omega
 generalize n.toNat = k at h1 h2
 match k,h1,h2 with
 | 1,_,_|2,_,_|3,_,_|4,_,_|5,_,_|6,_,_|7,_,_|8,_,_ => simp
theorem a_impl_TreesOf (n:Int):AFn Try.prog 19 [eI n] (· = [.own 1 ((trsOf n).1.map eL) true,.val (.int (trsOf n).2)]):=by
 have hl:=a_impl_inRange n 1 8
 unfold trsOf
 by_cases h:inR n 1 8 = true
 ·obtain ⟨k,rfl,hk⟩:=inR_mem h
  have hc:=a_treesOf k hk
  rw [h] at hl
  rw [if_pos h,Int.toNat_natCast]
  simp only [eI] at hl hc
  refine AFn.of_runs (cfg_ok 9) Try.func19 rfl rfl rfl (by simp only [List.length_cons,List.length_nil];decide) ?_
  have hres:Try.f19.results.toList = [.tmp 2,.tmp 3]:=rfl
  have hrts:Try.f19.resultTypes.toList = [30,2]:=rfl
  simp only [argRegs,argAV1,eL,eI,eLL,eB,Nat.zero_add,Nat.reduceAdd]
  intro M
  refine RunK.of ?_
  repeat' (first|with_reducible (first|refine Q1 ?_|refine Q2 ?_|refine Q3 ?_|refine Q4 ?_|refine Q5 ?_|refine Q6 ?_|refine Q7 ?_|refine Q8 ?_|refine Q9 ?_|refine Qa ?_|refine Qb ?_|refine Qc ?_|refine Qd ?_|refine Qe ?_|refine Qf ?_)|((with_reducible refine Qo ?_ ?_);focus rfl)|((with_reducible first|refine QT 4 (l:=?_) ?_ ?_|refine QF 4 (l:=?_) ?_ ?_);rotate_left 1;focus (simp only [Zu,Nat.reduceSub,Nat.reduceBEq];with_reducible rfl))|((with_reducible first|refine QS (cfg_ok 9) ((Tab.none.at' 95 hl).at' 96 hc) (s':=?_) ?_ ?_|refine QC (b:=?_) ?_ ?_);rotate_left 1;focus ((with_reducible refine QW ?_);simp only [Zg,seval,if_true,if_false,reduceCtorEq,Nat.reduceEqDiff,List.length_map];with_reducible rfl)))
  (refine Ends.mk (by simp) (rs:=?_) (ks:=?_) hres hrts ?_ ?_ ?_;rotate_left 2;(focus (simp only [Ze,Zg,seval,if_true,if_false,reduceCtorEq,Nat.reduceEqDiff];with_reducible rfl));(focus simp);focus (first|with_reducible rfl|(simp only [Zv];done)))
 ·rw [if_neg h]
  rw [show inR n 1 8 = false by simpa using h] at hl
  simp only [eI] at hl
  refine AFn.of_runs (cfg_ok 9) Try.func19 rfl rfl rfl (by simp only [List.length_cons,List.length_nil];decide) ?_
  have hres:Try.f19.results.toList = [.tmp 2,.tmp 3]:=rfl
  have hrts:Try.f19.resultTypes.toList = [30,2]:=rfl
  simp only [argRegs,argAV1,eL,eI,eLL,eB,Nat.zero_add,Nat.reduceAdd]
  intro M
  refine RunK.of ?_
  repeat' (first|with_reducible (first|refine Q1 ?_|refine Q2 ?_|refine Q3 ?_|refine Q4 ?_|refine Q5 ?_|refine Q6 ?_|refine Q7 ?_|refine Q8 ?_|refine Q9 ?_|refine Qa ?_|refine Qb ?_|refine Qc ?_|refine Qd ?_|refine Qe ?_|refine Qf ?_)|((with_reducible refine Qo ?_ ?_);focus rfl)|((with_reducible first|refine QT 4 (l:=?_) ?_ ?_|refine QF 4 (l:=?_) ?_ ?_);rotate_left 1;focus (simp only [Zu,Nat.reduceSub,Nat.reduceBEq];with_reducible rfl))|((with_reducible first|refine QS (cfg_ok 9) (Tab.none.at' 95 hl) (s':=?_) ?_ ?_|refine QC (b:=?_) ?_ ?_);rotate_left 1;focus ((with_reducible refine QW ?_);simp only [Zg,seval,if_true,if_false,reduceCtorEq,Nat.reduceEqDiff];with_reducible rfl)))
  (refine Ends.mk (by simp) (rs:=?_) (ks:=?_) hres hrts ?_ ?_ ?_;rotate_left 2;(focus (simp only [Ze,Zg,seval,if_true,if_false,reduceCtorEq,Nat.reduceEqDiff];with_reducible rfl));(focus simp);focus (first|with_reducible rfl|(simp only [Zv];done)))
end Go.Proofs.Ytofpjonggpjneaa
namespace Go.Proofs.Ytofpjonggpjneaa
def grs (u v:List Int):List (List Int):=(List.range u.length).map fun n => canon (graftL u n v)
end Go.Proofs.Ytofpjonggpjneaa
namespace Go.Proofs.Ytofpjonggpjneaa
open Go.RowKit
def gsOf (u v:List Int):List (List Int × Int) × Int :=
 if (lev8 u && lev8 v) = true then (if u.length + v.length ≤ 8 then (sumOf (grs u v),0) else ([],3)) else ([],1)
end Go.Proofs.Ytofpjonggpjneaa
namespace Go.Proofs.Ytofpjonggpjneaa
open Go.RowKit
def cutAt (t:List Int) (n:Nat):List Int × List Int:=(canon (cutT t n),canon (cutB t n))
def cntTo (t:List Int) (p:List Int × List Int):Nat→Nat
 | 0 => 0
 | k + 1 => cntTo t p k + (if cutAt t (k + 1) = p then 1 else 0)
def cctOf (t a b:List Int):Int × Int:=if (lev8 t && lev8 a && lev8 b) = true then (((cntTo t (canon a,canon b) (t.length - 1):Nat):Int),(0:Int)) else (0,1)
end Go.Proofs.Ytofpjonggpjneaa
namespace Go.Proofs.Ytofpjonggpjneaa
open Go.RowKit
def totF (L:List (List Int × Int)):Nat→Int
 | 0 => 0
 | i + 1 => totF L i + (L.getD i ([],0)).2
set_option maxRecDepth 100000
end Go.Proofs.Ytofpjonggpjneaa
namespace Go.Proofs.Ytofpjonggpjneaa
open Go.RowKit
set_option maxRecDepth 100000
structure GcZ (u v:List Int) (z:List Int × Int):Prop where
 lev:lev8 z.1 = true
 c1:1 ≤ z.2
 c8:z.2 ≤ 8
 s0:0 ≤ symF 9 z.1
 s1:symF 9 z.1 ≤ 5040
 cc:(cctOf z.1 u v).2 = 0
 c0:0 ≤ (cctOf z.1 u v).1
 ch:(cctOf z.1 u v).1 ≤ 8
 cb:(cntTo z.1 (canon u,canon v) (z.1.length - 1):Int) ≤ 1000000
 eq:z.2 * symF 9 z.1 = (cctOf z.1 u v).1 * symF 9 u * symF 9 v
structure GcF (u v:List Int):Prop where
 gs:(gsOf u v).2 = 0
 bp:(bpOf u v).2 = 0
 len:(gsOf u v).1.length ≤ 8
 tot:totF (gsOf u v).1 (gsOf u v).1.length = (u.length:Int)
 any:∃ z ∈ (gsOf u v).1,z.1 = (bpOf u v).1
 su:0 ≤ symF 9 u∧symF 9 u ≤ 5040
 sv:0 ≤ symF 9 v∧symF 9 v ≤ 5040
 all:∀ z ∈ (gsOf u v).1,GcZ u v z
end Go.Proofs.Ytofpjonggpjneaa
namespace Go.Proofs.Ytofpjonggpjneaa
open Go.RowKit
theorem AFn.of_v2 {P:Program} {f:FuncId} {ds:List (List D)} {d1 d2:D} {v1 v2:Value} (eg:∀ args w,(callFunc f args).run P w = .ok (.enter f args) w) (h1:∀ A w,rdV A w v1 d1) (h2:∀ A w,rdV A w v2 d2)
  (h:∀ (w:World) (A:Nat→Prop) vs,relArgs A w ds vs→Calls P f vs.toArray w (RetV w (.tuple #[v1,v2]))):AFn P f ds (· = [.val d1,.val d2]):=by
 refine ⟨eg,fun A w vs hA hv => (h w A vs hv).mono ?_⟩
 rintro e w' ⟨rfl,hb⟩
 exact ⟨_,_,rfl,rfl,hb,[v1,v2],[],[],rfl,List.nodup_nil,by simp,v1,[v2],[],[],[],[],rfl,rfl,rfl,(h1 (fun _ => True) w).one,⟨h1 _ _,rfl,rfl⟩,v2,[],[],[],[],[],rfl,rfl,rfl,(h2 (fun _ => True) w).one,⟨h2 _ _,rfl,rfl⟩,rfl,rfl,rfl⟩
theorem tab_one {A:Nat→Prop} {w:World} {t:List Int} {vs:List Value} (h:relArgs A w [eL t] vs):∃ v,vs = [v]∧Rd (RS RI) w [v] t:=by
 obtain ⟨v1,_,e1,h1,e2⟩:=h
 have e2:_ = []:=e2
 subst e2;subst e1
 exact ⟨v1,rfl,Rd.of (rd1 h1)⟩
end Go.Proofs.Ytofpjonggpjneaa
namespace Go.Proofs.Ytofpjonggpjneaa
open Go.RowKit
section
variable {P:Program} {α:Type} {R:Rep α} {e:α→List D}
theorem own_out (E:Enc R e) {lo hi:Nat} {w:World} {v:Value} {xs:List α} (h:Own (RS R) lo hi w [v] xs):∃ og c G ds' d,v = slv og xs.length c∧Row w (slv og xs.length c) R.k xs.length ds' og∧(og.toList ++ G).Nodup∧(∀ b ∈ og.toList ++ G,lo ≤ b∧b < hi)∧ownL (RK R.k R.kpos (RC d)) w ds' (xs.map e) G:=by
 obtain ⟨F,⟨v',og,ds',G,e1,hrow,hel,rfl⟩,hn,hlt⟩:=h
 obtain rfl:v = v':=by simpa using e1
 obtain ⟨d,hel'⟩:=enc_ownL E hel
 obtain ⟨oa,c,ev,k1,k2,k3,k4⟩:=hrow.value
 have hv':v = slv og xs.length c:=by
  cases og with
  | none =>
   have h0:=hrow.len0
   have hoa:oa = none:=k4
   rw [ev,hoa,h0,k3 hoa];rfl
  | some g => rw [ev,k4];rfl
 exact ⟨og,c,G,ds',d,hv',by rw [← hv'];exact hrow,hn,hlt,hel'⟩
theorem own_relR (E:Enc R e) {lo hi:Nat} {w:World} {v:Value} {xs:List α} (h:Own (RS R) lo hi w [v] xs):∃ G X,G.Nodup∧(∀ b ∈ G,lo ≤ b∧b < hi)∧v.oneCell' = true∧∀ A M Y,relR A M w Y (.own R.k (xs.map e) true) v G X:=by
 obtain ⟨og,c,G,ds',d,hv,hrow,hn,hlt,hel⟩:=own_out E h
 refine ⟨og.toList ++ G,og.toList,hn,hlt,by rw [hv];cases og <;> rfl,fun A M Y => ?_⟩
 exact ⟨og,c,G,ds',by rw [List.length_map];exact hv,by rw [List.length_map,hv];exact hrow,R.kpos,rfl,rfl,d,R.kpos,hel⟩
theorem int_rel (A:Nat→Prop) (w:World) {c:Int} (hc:In64 c):rdV A w (.int .i64 c) (.int c):=rdV_int.2 ⟨rfl,hc⟩
theorem AFn.of_oc (E:Enc R e) {f:FuncId} {ds:List (List D)} {xs:List α} {c:Int} (hc:In64 c) (eg:∀ args w,(callFunc f args).run P w = .ok (.enter f args) w)
  (h:∀ (w:World) (A:Nat→Prop) vs,relArgs A w ds vs→Calls P f vs.toArray w (RetOC (RS R) w xs c)):AFn P f ds (· = [.own R.k (xs.map e) true,.val (.int c)]):=by
 refine ⟨eg,fun A w vs hA hv => (h w A vs hv).mono ?_⟩
 rintro e' w' ⟨v,rfl,ho,hb⟩
 obtain ⟨G,X,h1,h2,h3,h4⟩:=own_relR E ho
 exact ⟨_,_,rfl,rfl,hb,[v,.int .i64 c],G,X,rfl,h1,fun b hb' => (h2 b hb').1,v,[.int .i64 c],G,[],X,[],rfl,by simp,by simp,h3,h4 _ _ _,.int .i64 c,[],[],[],[],[],rfl,rfl,rfl,rfl,⟨int_rel _ _ hc,rfl,rfl⟩,rfl,rfl,rfl⟩
end
end Go.Proofs.Ytofpjonggpjneaa
namespace Go.Proofs.Ytofpjonggpjneaa
open Go.RowKit
theorem getD_ltn {l:List Int} {i:Nat} (h:i < l.length):l.getD i 0 = l[i]:=by rw [List.getD_eq_getElem?_getD,List.getElem?_eq_getElem h];rfl
theorem mapI_get {l:List Int} {i:Nat} (h:i < l.length):(l.map eI)[i]? = some [.int (l.getD i 0)]:=by rw [List.getElem?_map,List.getElem?_eq_getElem h,getD_ltn h];rfl
set_option maxHeartbeats 4000000 in
theorem a_likeInts (xs ys:List Int) (hsz:xs.length ≤ 1000000000):AFn Try.prog 35 [eL xs,eL ys] (· = [.val (.bool (decide (xs = ys)))]):=by
 have hx:(xs.map eI).length = xs.length:=List.length_map _
 have hy:(ys.map eI).length = ys.length:=List.length_map _
 by_cases hl:xs.length = ys.length
 rotate_left
 ·have hne:xs ≠ ys:=fun e => hl (by rw [e])
  have b:(((xs.length:Nat):Int) != ((ys.length:Nat):Int)) = true:=bne_iff_ne.2 (by omega)
  rw [decide_eq_false hne]
  refine AFn.of_runs (cfg_ok 26) Try.func35 rfl rfl rfl (by simp only [List.length_cons,List.length_nil];decide) ?_
  have hres:Try.f35.results.toList = [.tmp 4]:=rfl
  have hrts:Try.f35.resultTypes.toList = [4]:=rfl
  simp only [argRegs,argAV1,eL,eI,eLL,eB,Nat.zero_add,Nat.reduceAdd]
  intro M
  refine RunK.of ?_
  repeat' (first|with_reducible (first|refine Q1 ?_|refine Q2 ?_|refine Q3 ?_|refine Q4 ?_|refine Q5 ?_|refine Q6 ?_|refine Q7 ?_|refine Q8 ?_|refine Q9 ?_|refine Qa ?_|refine Qb ?_|refine Qc ?_|refine Qd ?_|refine Qe ?_|refine Qf ?_)|((with_reducible refine Qo ?_ ?_);focus rfl)|((with_reducible first|refine QT 6 (l:=?_) ?_ ?_|refine QF 6 (l:=?_) ?_ ?_);rotate_left 1;focus (simp only [Zu,Nat.reduceSub,Nat.reduceBEq];with_reducible rfl))|((with_reducible first|refine QS (cfg_ok 26) Tab.none (s':=?_) ?_ ?_|refine QC (b:=?_) ?_ ?_);rotate_left 1;focus ((with_reducible refine QW ?_);simp only [Zg,seval,if_true,if_false,reduceCtorEq,Nat.reduceEqDiff,b,hx,hy];with_reducible rfl))|((with_reducible refine QD (cfg_ok 26) Tab.none mixed_ok (tr:=?_) (s':=?_) ?_ ?_ ?_);rotate_left 2;(focus ((with_reducible refine QW ?_);simp only [Zg,Zd,seval,if_true,if_false,reduceCtorEq,Nat.reduceEqDiff,b,hx,hy];with_reducible rfl));focus ((with_reducible refine QK ?_);simp only [Zk];kernel_rfl)))
  (refine Ends.mk (by simp) (rs:=?_) (ks:=?_) hres hrts ?_ ?_ ?_;rotate_left 2;(focus (simp only [Ze,Zg,seval,if_true,if_false,reduceCtorEq,Nat.reduceEqDiff];with_reducible rfl));(focus simp);focus (first|with_reducible rfl|(simp only [Zv];done)))
 have b:(((ys.length:Nat):Int) != ((ys.length:Nat):Int)) = false:=by simp
 refine AFn.of_runs (cfg_ok 26) Try.func35 rfl rfl rfl (by simp only [List.length_cons,List.length_nil];decide) ?_
 have hres:Try.f35.results.toList = [.tmp 4]:=rfl
 have hrts:Try.f35.resultTypes.toList = [4]:=rfl
 simp only [argRegs,argAV1,eL,eI,eLL,eB,Nat.zero_add,Nat.reduceAdd]
 intro M
 refine RunK.of ?_
 repeat' (first|with_reducible (first|refine Q1 ?_|refine Q2 ?_|refine Q3 ?_|refine Q4 ?_|refine Q5 ?_|refine Q6 ?_|refine Q7 ?_|refine Q8 ?_|refine Q9 ?_|refine Qa ?_|refine Qb ?_|refine Qc ?_|refine Qd ?_|refine Qe ?_|refine Qf ?_)|((with_reducible refine Qo ?_ ?_);focus rfl)|((with_reducible first|refine QT 6 (l:=?_) ?_ ?_|refine QF 6 (l:=?_) ?_ ?_);rotate_left 1;focus (simp only [Zu,Nat.reduceSub,Nat.reduceBEq];with_reducible rfl))|((with_reducible first|refine QS (cfg_ok 26) Tab.none (s':=?_) ?_ ?_|refine QC (b:=?_) ?_ ?_);rotate_left 1;focus ((with_reducible refine QW ?_);simp only [Zg,seval,if_true,if_false,reduceCtorEq,Nat.reduceEqDiff,b,hx,hy,hl];with_reducible rfl))|((with_reducible refine QD (cfg_ok 26) Tab.none mixed_ok (tr:=?_) (s':=?_) ?_ ?_ ?_);rotate_left 2;(focus ((with_reducible refine QW ?_);simp only [Zg,Zd,seval,if_true,if_false,reduceCtorEq,Nat.reduceEqDiff,b,hx,hy,hl];with_reducible rfl));focus ((with_reducible refine QK ?_);simp only [Zk];kernel_rfl)))
 refine RunK.loop (β:=Nat) (γ:=Unit) (fun i => ⟨[(0,.c (.val (.sl 1 (xs.map eI)))),(1,.c (.val (.sl 1 (ys.map eI)))),(5,.c (.val (.int i)))],[]⟩) (fun i => i ≤ xs.length∧xs.take i = ys.take i) (fun i => xs.length - i)
  (fun _ => ⟨[],[]⟩) (fun _ => xs = ys) 0 ⟨Nat.zero_le _,rfl⟩ ?_ ?_ ?_
 ·(repeat' (first|with_reducible refine Qn|((with_reducible refine Qr ?_ ?_);focus (first|with_reducible rfl|(simp only [Zz,Nat.reduceBEq,Int.natCast_zero];done)|rfl))|((with_reducible refine Qj (o':=?_) ?_ ?_ ?_);rotate_left 1;focus rfl)|((with_reducible refine Qw ?_ ?_);(focus (first|with_reducible rfl|(simp only [Zv,Int.natCast_zero];done)));focus (first|exact id|exact (fun h => nomatch h)|exact (fun _ => rfl)))))
 ·rintro i ⟨hi,ht⟩
  have hw:=w64_succ (n:=i) (by omega)
  by_cases h:i < xs.length
  ·have i1:((i:Int) < (ys.length:Int)) = True:=eq_true (by omega)
   have i2:((0:Int) ≤ (i:Int)) = True:=eq_true (by omega)
   have g1:=mapI_get h
   have g2:=mapI_get (l:=ys) (i:=i) (by omega)
   by_cases he:xs.getD i 0 = ys.getD i 0
   ·have e0:(xs.getD i 0 != ys.getD i 0) = false:=by rw [he];simp only [bne_self_eq_false]
    repeat' (first|with_reducible (first|refine Q1 ?_|refine Q2 ?_|refine Q3 ?_|refine Q4 ?_|refine Q5 ?_|refine Q6 ?_|refine Q7 ?_|refine Q8 ?_|refine Q9 ?_|refine Qa ?_|refine Qb ?_|refine Qc ?_|refine Qd ?_|refine Qe ?_|refine Qf ?_)|((with_reducible refine Qo ?_ ?_);focus rfl)|((with_reducible first|refine QT 6 (l:=?_) ?_ ?_|refine QF 6 (l:=?_) ?_ ?_);rotate_left 1;focus (simp only [Zu,Nat.reduceSub,Nat.reduceBEq];with_reducible rfl))|((with_reducible first|refine QS (cfg_ok 26) Tab.none (s':=?_) ?_ ?_|refine QC (b:=?_) ?_ ?_);rotate_left 1;focus ((with_reducible refine QW ?_);simp only [Zg,seval,if_true,if_false,reduceCtorEq,Nat.reduceEqDiff,i1,i2,g1,g2,hx,hy,hl,hw,e0,Int.toNat_natCast];with_reducible rfl))|((with_reducible refine QD (cfg_ok 26) Tab.none mixed_ok (tr:=?_) (s':=?_) ?_ ?_ ?_);rotate_left 2;(focus ((with_reducible refine QW ?_);simp only [Zg,Zd,seval,if_true,if_false,reduceCtorEq,Nat.reduceEqDiff,i1,i2,g1,g2,hx,hy,hl,hw,e0,Int.toNat_natCast];with_reducible rfl));focus ((with_reducible refine QK ?_);simp only [Zk];kernel_rfl)))
    refine roundK.on (i + 1) ⟨⟨h,?_⟩,by omega⟩ ?_
    ·rw [getD_ltn h,getD_ltn (by omega)] at he
     rw [List.take_succ_eq_append_getElem h,List.take_succ_eq_append_getElem (by omega),ht,he]
    (repeat' (first|with_reducible refine Qn|((with_reducible refine Qr ?_ ?_);focus (first|with_reducible rfl|(simp only [Zz,Nat.reduceBEq];done)|rfl))|((with_reducible refine Qj (o':=?_) ?_ ?_ ?_);rotate_left 1;focus rfl)|((with_reducible refine Qw ?_ ?_);(focus (first|with_reducible rfl|(simp only [Zv];done)));focus (first|exact id|exact (fun h => nomatch h)|exact (fun _ => rfl)))))
   ·have e0:(xs.getD i 0 != ys.getD i 0) = true:=bne_iff_ne.2 he
    have hne:xs ≠ ys:=fun e => he (by rw [e])
    rw [decide_eq_false hne]
    repeat' (first|with_reducible (first|refine Q1 ?_|refine Q2 ?_|refine Q3 ?_|refine Q4 ?_|refine Q5 ?_|refine Q6 ?_|refine Q7 ?_|refine Q8 ?_|refine Q9 ?_|refine Qa ?_|refine Qb ?_|refine Qc ?_|refine Qd ?_|refine Qe ?_|refine Qf ?_)|((with_reducible refine Qo ?_ ?_);focus rfl)|((with_reducible first|refine QT 6 (l:=?_) ?_ ?_|refine QF 6 (l:=?_) ?_ ?_);rotate_left 1;focus (simp only [Zu,Nat.reduceSub,Nat.reduceBEq];with_reducible rfl))|((with_reducible first|refine QS (cfg_ok 26) Tab.none (s':=?_) ?_ ?_|refine QC (b:=?_) ?_ ?_);rotate_left 1;focus ((with_reducible refine QW ?_);simp only [Zg,seval,if_true,if_false,reduceCtorEq,Nat.reduceEqDiff,i1,i2,g1,g2,hx,hy,hl,hw,e0,Int.toNat_natCast];with_reducible rfl))|((with_reducible refine QD (cfg_ok 26) Tab.none mixed_ok (tr:=?_) (s':=?_) ?_ ?_ ?_);rotate_left 2;(focus ((with_reducible refine QW ?_);simp only [Zg,Zd,seval,if_true,if_false,reduceCtorEq,Nat.reduceEqDiff,i1,i2,g1,g2,hx,hy,hl,hw,e0,Int.toNat_natCast];with_reducible rfl));focus ((with_reducible refine QK ?_);simp only [Zk];kernel_rfl)))
    refine roundK.ret ?_
    repeat' (first|with_reducible (first|refine Q1 ?_|refine Q2 ?_|refine Q3 ?_|refine Q4 ?_|refine Q5 ?_|refine Q6 ?_|refine Q7 ?_|refine Q8 ?_|refine Q9 ?_|refine Qa ?_|refine Qb ?_|refine Qc ?_|refine Qd ?_|refine Qe ?_|refine Qf ?_)|((with_reducible refine Qo ?_ ?_);focus rfl)|((with_reducible first|refine QT 6 (l:=?_) ?_ ?_|refine QF 6 (l:=?_) ?_ ?_);rotate_left 1;focus (simp only [Zu,Nat.reduceSub,Nat.reduceBEq];with_reducible rfl))|((with_reducible first|refine QS (cfg_ok 26) Tab.none (s':=?_) ?_ ?_|refine QC (b:=?_) ?_ ?_);rotate_left 1;focus ((with_reducible refine QW ?_);simp only [Zg,seval,if_true,if_false,reduceCtorEq,Nat.reduceEqDiff];with_reducible rfl))|((with_reducible refine QD (cfg_ok 26) Tab.none mixed_ok (tr:=?_) (s':=?_) ?_ ?_ ?_);rotate_left 2;(focus ((with_reducible refine QW ?_);simp only [Zg,Zd,seval,if_true,if_false,reduceCtorEq,Nat.reduceEqDiff];with_reducible rfl));focus ((with_reducible refine QK ?_);simp only [Zk];kernel_rfl)))
    (refine Ends.mk (by simp) (rs:=?_) (ks:=?_) hres hrts ?_ ?_ ?_;rotate_left 2;(focus (simp only [Ze,Zg,seval,if_true,if_false,reduceCtorEq,Nat.reduceEqDiff];with_reducible rfl));(focus simp);focus (first|with_reducible rfl|(simp only [Zv];done)))
  ·have i1:((i:Int) < (ys.length:Int)) = False:=eq_false (by omega)
   repeat' (first|with_reducible (first|refine Q1 ?_|refine Q2 ?_|refine Q3 ?_|refine Q4 ?_|refine Q5 ?_|refine Q6 ?_|refine Q7 ?_|refine Q8 ?_|refine Q9 ?_|refine Qa ?_|refine Qb ?_|refine Qc ?_|refine Qd ?_|refine Qe ?_|refine Qf ?_)|((with_reducible refine Qo ?_ ?_);focus rfl)|((with_reducible first|refine QT 6 (l:=?_) ?_ ?_|refine QF 6 (l:=?_) ?_ ?_);rotate_left 1;focus (simp only [Zu,Nat.reduceSub,Nat.reduceBEq];with_reducible rfl))|((with_reducible first|refine QS (cfg_ok 26) Tab.none (s':=?_) ?_ ?_|refine QC (b:=?_) ?_ ?_);rotate_left 1;focus ((with_reducible refine QW ?_);simp only [Zg,seval,if_true,if_false,reduceCtorEq,Nat.reduceEqDiff,i1,hx,hl];with_reducible rfl))|((with_reducible refine QD (cfg_ok 26) Tab.none mixed_ok (tr:=?_) (s':=?_) ?_ ?_ ?_);rotate_left 2;(focus ((with_reducible refine QW ?_);simp only [Zg,Zd,seval,if_true,if_false,reduceCtorEq,Nat.reduceEqDiff,i1,hx,hl];with_reducible rfl));focus ((with_reducible refine QK ?_);simp only [Zk];kernel_rfl)))
   refine roundK.out () ?_ ?_
   ·rw [List.take_of_length_le (by omega),List.take_of_length_le (by omega)] at ht
    exact ht
   (repeat' (first|with_reducible refine Qn|((with_reducible refine Qr ?_ ?_);focus (first|with_reducible rfl|(simp only [Zz,Nat.reduceBEq];done)|rfl))|((with_reducible refine Qj (o':=?_) ?_ ?_ ?_);rotate_left 1;focus rfl)|((with_reducible refine Qw ?_ ?_);(focus (first|with_reducible rfl|(simp only [Zv];done)));focus (first|exact id|exact (fun h => nomatch h)|exact (fun _ => rfl)))))
 ·intro _ he
  rw [decide_eq_true he]
  repeat' (first|with_reducible (first|refine Q1 ?_|refine Q2 ?_|refine Q3 ?_|refine Q4 ?_|refine Q5 ?_|refine Q6 ?_|refine Q7 ?_|refine Q8 ?_|refine Q9 ?_|refine Qa ?_|refine Qb ?_|refine Qc ?_|refine Qd ?_|refine Qe ?_|refine Qf ?_)|((with_reducible refine Qo ?_ ?_);focus rfl)|((with_reducible first|refine QT 6 (l:=?_) ?_ ?_|refine QF 6 (l:=?_) ?_ ?_);rotate_left 1;focus (simp only [Zu,Nat.reduceSub,Nat.reduceBEq];with_reducible rfl))|((with_reducible first|refine QS (cfg_ok 26) Tab.none (s':=?_) ?_ ?_|refine QC (b:=?_) ?_ ?_);rotate_left 1;focus ((with_reducible refine QW ?_);simp only [Zg,seval,if_true,if_false,reduceCtorEq,Nat.reduceEqDiff];with_reducible rfl))|((with_reducible refine QD (cfg_ok 26) Tab.none mixed_ok (tr:=?_) (s':=?_) ?_ ?_ ?_);rotate_left 2;(focus ((with_reducible refine QW ?_);simp only [Zg,Zd,seval,if_true,if_false,reduceCtorEq,Nat.reduceEqDiff];with_reducible rfl));focus ((with_reducible refine QK ?_);simp only [Zk];kernel_rfl)))
  (refine Ends.mk (by simp) (rs:=?_) (ks:=?_) hres hrts ?_ ?_ ?_;rotate_left 2;(focus (simp only [Ze,Zg,seval,if_true,if_false,reduceCtorEq,Nat.reduceEqDiff];with_reducible rfl));(focus simp);focus (first|with_reducible rfl|(simp only [Zv];done)))
end Go.Proofs.Ytofpjonggpjneaa
namespace Go.Proofs.Ytofpjonggpjneaa
open Go.RowKit
def tmsF (L:List (List Int × Int)) (t:List Int):Nat→Int
 | 0 => 0
 | i + 1 => if (L.getD i ([],0)).1 = t then tmsF L t i + (L.getD i ([],0)).2 else tmsF L t i
set_option maxHeartbeats 4000000 in
theorem a_times9 (L:List (List Int × Int)) (t:List Int) (hl:L.length ≤ 1000000) (hz:∀ z ∈ L,z.1.length ≤ 1000000∧0 ≤ z.2∧z.2 ≤ 1000000):AFn Try.prog 33 [[.sl 2 (L.map eCt)],eL t] (· = [.val (.int (tmsF L t L.length))]):=by
 have hlm:(L.map eCt).length = L.length:=List.length_map _
 have hb:∀ i,i ≤ L.length→0 ≤ tmsF L t i∧tmsF L t i ≤ 1000000 * i:=by
  intro i
  induction i with
  | zero => intro _;simp [tmsF]
  | succ i ih =>
   intro h
   have h1:=ih (by omega)
   have e:L.getD i ([],0) = L[i]:=by rw [List.getD_eq_getElem?_getD,List.getElem?_eq_getElem (by omega)];rfl
   have h2:=hz L[i] (List.getElem_mem _)
   unfold tmsF
   rw [e]
   split <;> omega
 refine AFn.of_runs (cfg_ok 28) Try.func33 rfl rfl rfl (by simp only [List.length_cons,List.length_nil];decide) ?_
 have hres:Try.f33.results.toList = [.tmp 4]:=rfl
 have hrts:Try.f33.resultTypes.toList = [2]:=rfl
 simp only [argRegs,argAV1,eL,eI,eLL,eB,Nat.zero_add,Nat.reduceAdd]
 intro M
 refine RunK.of ?_
 repeat' (first|with_reducible (first|refine Q1 ?_|refine Q2 ?_|refine Q3 ?_|refine Q4 ?_|refine Q5 ?_|refine Q6 ?_|refine Q7 ?_|refine Q8 ?_|refine Q9 ?_|refine Qa ?_|refine Qb ?_|refine Qc ?_|refine Qd ?_|refine Qe ?_|refine Qf ?_)|((with_reducible refine Qo ?_ ?_);focus rfl)|((with_reducible first|refine QT 7 (l:=?_) ?_ ?_|refine QF 7 (l:=?_) ?_ ?_);rotate_left 1;focus (simp only [Zu,Nat.reduceSub,Nat.reduceBEq];with_reducible rfl))|((with_reducible first|refine QS (cfg_ok 28) Tab.none (s':=?_) ?_ ?_|refine QC (b:=?_) ?_ ?_);rotate_left 1;focus ((with_reducible refine QW ?_);simp only [Zg,seval,if_true,if_false,reduceCtorEq,Nat.reduceEqDiff];with_reducible rfl)))
 refine RunK.loop (β:=Nat) (γ:=Unit) (fun i => ⟨[(0,.c (.val (.sl 2 (L.map eCt)))),(1,.c (.val (.sl 1 (t.map eI)))),(5,.c (.val (.int (tmsF L t i)))),(6,.c (.val (.int i)))],[]⟩) (fun i => i ≤ L.length) (fun i => L.length - i)
  (fun _ => ⟨[(5,.c (.val (.int (tmsF L t L.length))))],[]⟩) (fun _ => True) 0 (Nat.zero_le _) ?_ ?_ ?_
 ·(repeat' (first|with_reducible refine Qn|((with_reducible refine Qr ?_ ?_);focus (first|with_reducible rfl|(simp only [Zz,Nat.reduceBEq,Int.natCast_zero,show tmsF L t 0 = 0 from rfl];done)|rfl))|((with_reducible refine Qj (o':=?_) ?_ ?_ ?_);rotate_left 1;focus rfl)|((with_reducible refine Qw ?_ ?_);(focus (first|with_reducible rfl|(simp only [Zv,Int.natCast_zero,show tmsF L t 0 = 0 from rfl];done)));focus (first|exact id|exact (fun h => nomatch h)|exact (fun _ => rfl)))))
 ·intro i hi
  have hi:i ≤ L.length:=hi
  have hw:=w64_succ (n:=i) (by omega)
  by_cases h:i < L.length
  ·have i1:((i:Int) < (L.length:Int)) = True:=eq_true (by omega)
   have i2:((0:Int) ≤ (i:Int)) = True:=eq_true (by omega)
   have e:L.getD i ([],0) = L[i]:=by rw [List.getD_eq_getElem?_getD,List.getElem?_eq_getElem h];rfl
   have h2:=hz L[i] (List.getElem_mem _)
   have hb1:=hb i (by omega)
   have es:tmsF L t (i + 1) = if (L.getD i ([],0)).1 = t then tmsF L t i + (L.getD i ([],0)).2 else tmsF L t i:=rfl
   have hg:(L.map eCt)[i]? = some (eCt L[i]):=by rw [List.getElem?_map,List.getElem?_eq_getElem h];rfl
   rw [e] at es
   obtain ⟨⟨u,n⟩,hu⟩:∃ z,z = L[i]:=⟨_,rfl⟩
   rw [← hu] at es h2 hg
   simp only at es h2
   simp only [eCt] at hg
   have hlk:=a_likeInts u t (by omega)
   simp only [eL] at hlk
   by_cases he:u = t
   ·rw [if_pos he] at es
    rw [decide_eq_true he] at hlk
    have ws:w64 (tmsF L t i + n) = tmsF L t (i + 1):=by rw [es];exact w64_eq (by omega)
    repeat' (first|with_reducible (first|refine Q1 ?_|refine Q2 ?_|refine Q3 ?_|refine Q4 ?_|refine Q5 ?_|refine Q6 ?_|refine Q7 ?_|refine Q8 ?_|refine Q9 ?_|refine Qa ?_|refine Qb ?_|refine Qc ?_|refine Qd ?_|refine Qe ?_|refine Qf ?_)|((with_reducible refine Qo ?_ ?_);focus rfl)|((with_reducible first|refine QT 7 (l:=?_) ?_ ?_|refine QF 7 (l:=?_) ?_ ?_);rotate_left 1;focus (simp only [Zu,Nat.reduceSub,Nat.reduceBEq];with_reducible rfl))|((with_reducible first|refine QS (cfg_ok 28) (Tab.none.at' 35 hlk) (s':=?_) ?_ ?_|refine QC (b:=?_) ?_ ?_);rotate_left 1;focus ((with_reducible refine QW ?_);simp only [Zg,seval,if_true,if_false,reduceCtorEq,Nat.reduceEqDiff,i1,i2,hlm,hg,ws,hw,Int.toNat_natCast];with_reducible rfl)))
    refine roundK.on (i + 1) ⟨h,by omega⟩ ?_
    (repeat' (first|with_reducible refine Qn|((with_reducible refine Qr ?_ ?_);focus (first|with_reducible rfl|(simp only [Zz,Nat.reduceBEq];done)|rfl))|((with_reducible refine Qj (o':=?_) ?_ ?_ ?_);rotate_left 1;focus rfl)|((with_reducible refine Qw ?_ ?_);(focus (first|with_reducible rfl|(simp only [Zv];done)));focus (first|exact id|exact (fun h => nomatch h)|exact (fun _ => rfl)))))
   ·rw [if_neg he] at es
    rw [decide_eq_false he] at hlk
    repeat' (first|with_reducible (first|refine Q1 ?_|refine Q2 ?_|refine Q3 ?_|refine Q4 ?_|refine Q5 ?_|refine Q6 ?_|refine Q7 ?_|refine Q8 ?_|refine Q9 ?_|refine Qa ?_|refine Qb ?_|refine Qc ?_|refine Qd ?_|refine Qe ?_|refine Qf ?_)|((with_reducible refine Qo ?_ ?_);focus rfl)|((with_reducible first|refine QT 7 (l:=?_) ?_ ?_|refine QF 7 (l:=?_) ?_ ?_);rotate_left 1;focus (simp only [Zu,Nat.reduceSub,Nat.reduceBEq];with_reducible rfl))|((with_reducible first|refine QS (cfg_ok 28) (Tab.none.at' 35 hlk) (s':=?_) ?_ ?_|refine QC (b:=?_) ?_ ?_);rotate_left 1;focus ((with_reducible refine QW ?_);simp only [Zg,seval,if_true,if_false,reduceCtorEq,Nat.reduceEqDiff,i1,i2,hlm,hg,hw,Int.toNat_natCast];with_reducible rfl)))
    refine roundK.on (i + 1) ⟨h,by omega⟩ ?_
    rw [es]
    (repeat' (first|with_reducible refine Qn|((with_reducible refine Qr ?_ ?_);focus (first|with_reducible rfl|(simp only [Zz,Nat.reduceBEq];done)|rfl))|((with_reducible refine Qj (o':=?_) ?_ ?_ ?_);rotate_left 1;focus rfl)|((with_reducible refine Qw ?_ ?_);(focus (first|with_reducible rfl|(simp only [Zv];done)));focus (first|exact id|exact (fun h => nomatch h)|exact (fun _ => rfl)))))
  ·have i1:((i:Int) < (L.length:Int)) = False:=eq_false (by omega)
   obtain rfl:i = L.length:=by omega
   repeat' (first|with_reducible (first|refine Q1 ?_|refine Q2 ?_|refine Q3 ?_|refine Q4 ?_|refine Q5 ?_|refine Q6 ?_|refine Q7 ?_|refine Q8 ?_|refine Q9 ?_|refine Qa ?_|refine Qb ?_|refine Qc ?_|refine Qd ?_|refine Qe ?_|refine Qf ?_)|((with_reducible refine Qo ?_ ?_);focus rfl)|((with_reducible first|refine QT 7 (l:=?_) ?_ ?_|refine QF 7 (l:=?_) ?_ ?_);rotate_left 1;focus (simp only [Zu,Nat.reduceSub,Nat.reduceBEq];with_reducible rfl))|((with_reducible first|refine QS (cfg_ok 28) Tab.none (s':=?_) ?_ ?_|refine QC (b:=?_) ?_ ?_);rotate_left 1;focus ((with_reducible refine QW ?_);simp only [Zg,seval,if_true,if_false,reduceCtorEq,Nat.reduceEqDiff,i1,hlm];with_reducible rfl)))
   refine roundK.out () trivial ?_
   (repeat' (first|with_reducible refine Qn|((with_reducible refine Qr ?_ ?_);focus (first|with_reducible rfl|(simp only [Zz,Nat.reduceBEq];done)|rfl))|((with_reducible refine Qj (o':=?_) ?_ ?_ ?_);rotate_left 1;focus rfl)|((with_reducible refine Qw ?_ ?_);(focus (first|with_reducible rfl|(simp only [Zv];done)));focus (first|exact id|exact (fun h => nomatch h)|exact (fun _ => rfl)))))
 ·intro _ _
  repeat' (first|with_reducible (first|refine Q1 ?_|refine Q2 ?_|refine Q3 ?_|refine Q4 ?_|refine Q5 ?_|refine Q6 ?_|refine Q7 ?_|refine Q8 ?_|refine Q9 ?_|refine Qa ?_|refine Qb ?_|refine Qc ?_|refine Qd ?_|refine Qe ?_|refine Qf ?_)|((with_reducible refine Qo ?_ ?_);focus rfl)|((with_reducible first|refine QT 7 (l:=?_) ?_ ?_|refine QF 7 (l:=?_) ?_ ?_);rotate_left 1;focus (simp only [Zu,Nat.reduceSub,Nat.reduceBEq];with_reducible rfl))|((with_reducible first|refine QS (cfg_ok 28) Tab.none (s':=?_) ?_ ?_|refine QC (b:=?_) ?_ ?_);rotate_left 1;focus ((with_reducible refine QW ?_);simp only [Zg,seval,if_true,if_false,reduceCtorEq,Nat.reduceEqDiff];with_reducible rfl)))
  (refine Ends.mk (by simp) (rs:=?_) (ks:=?_) hres hrts ?_ ?_ ?_;rotate_left 2;(focus (simp only [Ze,Zg,seval,if_true,if_false,reduceCtorEq,Nat.reduceEqDiff];with_reducible rfl));(focus simp);focus (first|with_reducible rfl|(simp only [Zv];done)))
end Go.Proofs.Ytofpjonggpjneaa
namespace Go.Proofs.Ytofpjonggpjneaa
open Go.RowKit
set_option maxRecDepth 100000 in
set_option maxHeartbeats 2000000 in
theorem c_impl_isSuperfluous (v:Value) (t:List Int) (w:World) (h:Rd (RS RI) w [v] t) (h8:lev8 t = true) :
  Calls Try.prog 120 #[v] w (RetV w (.bool (isSup (canon t)))):=by
 have hl8:=lev8_len h8
 have hcn:=c_impl_canonical 13 v t w h (lev8_lev h8) (by omega) (by omega)
 have hso:=fun (i:Nat) (h0:0 < i) (hi:i < t.length) => sup_ok h8 h0 hi
 have hcl:=canon_len (lev8_lev h8)
 have hc8:=lev8_canon h8
 obtain ⟨ct,hct⟩:∃ ct,ct = canon t:=⟨_,rfl⟩
 rw [← hct] at hcn hso hcl hc8
 rw [← hct]
 have HNR:Hid (∀ W v,Rd (RS RI) W [v] ct→Calls Try.prog 167 #[v] W (RetO (RS (RS RI)) W (nears ct))):=Lib.hid (fun W v r => c_impl_nearOf v ct W r hc8)
 have HPR:Hid (∀ W v,Rd (RS RI) W [v] ct→Calls Try.prog 171 #[v] W (RetO (RS RI) W (parents ct))):=Lib.hid (fun W v r => c_impl_parentsOf v ct W r hc8)
 have HTF:Hid (∀ (i:Nat),0 < i→i < ct.length→∃ p:Nat,parAt ct i = p∧p < ct.length∧∃ x y,decide (x = y) = supD ct i∧∀ (W:World) (v:Value),Rd (RS (RS RI)) W [v] (nears ct)→Calls Try.prog 168 #[v,.int .i64 i,.int .i64 p] W (RetO (RS RI) W x)∧Calls Try.prog 168 #[v,.int .i64 p,.int .i64 i] W (RetO (RS RI) W y)):=Lib.hid (fun i h0 hi => by
  have h1:=hso i h0 (by omega)
  have h2:=par_ok hc8 h0 hi
  have h3:=par_lt ct i
  obtain ⟨p,hp⟩:∃ p:Nat,parAt ct i = p:=⟨(parAt ct i).toNat,by omega⟩
  rw [hp] at h1
  exact ⟨p,hp,by omega,_,_,h1.2.2.2.2,fun W v r => ⟨c_impl_treeFrom 9 v (nears ct) i p W r h1.1 h1.2.1,c_impl_treeFrom 9 v (nears ct) p i W r h1.2.2.1 h1.2.2.2.1⟩⟩)
 have hcb:ct.length ≤ 8:=by omega
 have hpos:=(lev8_lev hc8).pos
 have hpl:=parents_len ct
 have hp0:parAt ct 0 = -1:=rfl
 have HPG:Hid (∀ i (h:i < ct.length) (h2:i < (parents ct).length),(parents ct)[i] = parAt ct i):=Lib.hid (fun i h h2 => parents_get ct i h)
 obtain ⟨cl,hcl'⟩:∃ cl,cl = ct.length:=⟨_,rfl⟩
 rw [← hcl'] at hcb HTF HPG hpl
 have HCL:=Lib.hid hcl'
 have HP0:=Lib.hid hp0
 have HPL:=Lib.hid hpl
 clear hct hso hcl hc8 hcl' h8 h hp0 hpl
 go_enter Try.func120,Try.ntmps120
 go_wp2_with fail
 refine hcn.mono ?_
 rintro e w1 ⟨u1,rfl,o1,b1⟩
 go_wp2_with fail
 refine (HNR.out _ _ o1.rd).mono ?_
 rintro e w2 ⟨u2,rfl,o2,b2⟩
 have o1':=o1.below b2 (Nat.le_refl _)
 go_wp2_with fail
 refine (HPR.out _ _ o1'.rd).mono ?_
 rintro e w3 ⟨u3,rfl,o3,b3⟩
 obtain ⟨op,cp,I⟩:=o3.rd.ints
 obtain rfl:=I.val
 have n1:=I.le;have n2:=I.capLe
 unfold maxLen at n2
 rw [HPL.out] at n1
 rw [HPL.out]
 have HI:=Lib.hid I
 have HO2:Hid (Rd (RS (RS RI)) w3 [u2] (nears ct)):=Lib.hid (o2.below b3 (Nat.le_refl _)).rd
 obtain ⟨on,cn,rfl,n3,n4⟩:=o2.val
 have s1:=b1.size
 have hb2:=b1.trans (b2.mono s1)
 have s2:=hb2.size
 have hb3:=hb2.trans (b3.mono s2)
 obtain ⟨nl,hnl⟩:∃ nl,nl = (nears ct).length:=⟨_,rfl⟩
 rw [← hnl] at HO2
 rw [← hnl]
 clear o1 o1' o2 o3 I hcn b1 b2 b3 hnl n3
 go_wp2_with fail
 go_loopw [13] (fun i wr => ∃ (k:Nat),k ≤ cl∧i = .int .i64 k∧Hid (∀ i,0 < i→i < k→supD ct i = false)∧Below w3.heap.size w3 wr) (fun i _ => cl - (intOf i).toNat)
 case atStart => exact ⟨0,Nat.zero_le _,rfl,Lib.hid (fun i a b => by omega),Below.refl _ _⟩
 case round =>
  obtain ⟨k,hk,rfl,hall,hbel⟩:=hrel
  have hsz1:=hbel.size
  by_cases hlt:k < cl
  ·have hlt2:k < ct.length:=by rw [← HCL.out];exact hlt
   obtain ⟨bp,fp,rfl,hbp,hcp⟩:=HI.out.get (k:=k) (by rw [HPL.out];exact hlt)
   have gk:=(hbel.cell (p:=⟨bp,fp + k,none⟩) hbp).trans (hcp k (by rw [HPL.out];exact hlt))
   rw [HPG.out k hlt (by rw [HPL.out];exact hlt)] at gk
   rcases Nat.eq_zero_or_pos k with rfl|hk0
   ·rw [HP0.out] at gk
    clear hcp
    have hi0:(((0:Nat):Int)) = 0:=rfl
    rw [Nat.add_zero] at gk
    go_wp2_with fail
    go_roundw
    case rel => exact ⟨1,by omega,by first|rfl|go_num,Lib.hid (fun i a b => by omega),hbel⟩
    case measure => simp [intOf] <;> omega
   ·obtain ⟨p,hp,hpc,x,y,hxy,hcs⟩:=HTF.out k hk0 hlt
    rw [hp] at gk
    have hc1:=(hcs wr _ (HO2.out.below hbel (Nat.le_refl _))).1
    have HC2:Hid (∀ W,Below wr.heap.size wr W→Calls Try.prog 168 #[.slice on nl cn,.int .i64 p,.int .i64 k] W (RetO (RS RI) W y)):=Lib.hid (fun W b => (hcs W _ ((HO2.out.below hbel (Nat.le_refl _)).below b (Nat.le_refl _))).2)
    have HXY:=Lib.hid hxy
    have i1:(0:Int) ≤ (p:Int):=by omega
    have i2:(0:Int) ≤ (k:Int):=by omega
    clear hcp hp hcs hxy
    by_cases hxe:x = y
    ·have d1:decide (x = y) = true:=decide_eq_true hxe
     have EQ1:Hid (∀ W v1 v2,Rd (RS RI) W [v1] x→Rd (RS RI) W [v2] y→Calls Try.prog 104 #[v1,v2] W (RetQ W (.bool true))):=Lib.hid (fun W v1 v2 r1 r2 => by have:=c_slicesEqual v1 v2 x y W r1 r2;rw [d1] at this;exact this)
     have HR:Hid (isSup ct = true):=Lib.hid (isSup_true hk0 hlt2 (by rw [← HXY.out,d1]))
     clear hxe d1
     go_wp2_with fail
     refine hc1.mono ?_
     rintro e w4 ⟨u4,rfl,o4,b4⟩
     go_wp2_with fail
     refine (HC2.out _ b4).mono ?_
     rintro e w5 ⟨u5,rfl,o5,b5⟩
     go_wp2_with fail
     refine (EQ1.out _ _ _ (o4.below b5 (Nat.le_refl _)).rd o5.rd).mono ?_
     rintro e w6 ⟨rfl,nd,rfl⟩
     go_wp2_with fail
     go_ret
     have s4:=b4.size
     exact ⟨by rw [HR.out];rfl,hb3.trans ((hbel.trans ((b4.trans (b5.mono s4)).mono hsz1)).trans (Below.drewN _ _ _) |>.mono hb3.size)⟩
    ·have d1:decide (x = y) = false:=decide_eq_false hxe
     have EQ1:Hid (∀ W v1 v2,Rd (RS RI) W [v1] x→Rd (RS RI) W [v2] y→Calls Try.prog 104 #[v1,v2] W (RetQ W (.bool false))):=Lib.hid (fun W v1 v2 r1 r2 => by have:=c_slicesEqual v1 v2 x y W r1 r2;rw [d1] at this;exact this)
     have HALL:Hid (∀ i,0 < i→i < k + 1→supD ct i = false):=Lib.hid (fun i a b => by
      by_cases hik:i = k
      ·subst hik;rw [← HXY.out,d1]
      ·exact hall.out i a (by omega))
     clear hxe d1
     go_wp2_with fail
     refine hc1.mono ?_
     rintro e w4 ⟨u4,rfl,o4,b4⟩
     go_wp2_with fail
     refine (HC2.out _ b4).mono ?_
     rintro e w5 ⟨u5,rfl,o5,b5⟩
     have s4:=b4.size
     have hb6:=hbel.trans ((b4.trans (b5.mono s4)).mono hsz1)
     go_wp2_with fail
     refine (EQ1.out _ _ _ (o4.below b5 (Nat.le_refl _)).rd o5.rd).mono ?_
     rintro e w6 ⟨rfl,nd,rfl⟩
     have hb7:=hb6.trans (Below.drewN _ w5 nd)
     go_wp2_with fail
     go_roundw
     case rel => exact ⟨k + 1,by omega,by go_num,HALL,hb7⟩
     case measure => simp [intOf] <;> omega
  ·have HR:Hid (isSup ct = false):=Lib.hid (isSup_false (fun i a b => hall.out i a (by have:=HCL.out;omega)))
   go_wp2_with fail
   go_ret
   exact ⟨by rw [HR.out];rfl,hb3.trans (hbel.mono hb3.size)⟩
set_option maxRecDepth 100000 in
set_option maxHeartbeats 2000000 in
theorem k_impl_IsSuperfluous (v:Value) (t:List Int) (w:World) (h:Rd (RS RI) w [v] t) :
  Calls Try.prog 42 #[v] w (RetV w (.tuple #[.bool (supOf t).1,.int .i64 (supOf t).2])):=by
 have hlv:=c_impl_IsLevels v t w h
 cases h8:lev8 t
 ·have hr:=Lib.hid (supOf_bad h8)
  rw [h8] at hlv
  go_enter Try.func42,Try.ntmps42
  go_wp2_with (go_at_call 49;refine hlv.mono ?_;rintro e w' ⟨rfl,rfl⟩)
  go_ret2
  exact ⟨by rw [hr.out];rfl,Below.refl _ _⟩
 ·have hr:=Lib.hid (supOf_ok h8)
  rw [h8] at hlv
  have hs:=c_impl_isSuperfluous v t w h h8
  clear h
  go_enter Try.func42,Try.ntmps42
  go_wp2_with (go_at_call 49;refine hlv.mono ?_;rintro e w' ⟨rfl,rfl⟩)
  refine hs.mono ?_
  rintro e w1 ⟨rfl,b1⟩
  go_wp2_with fail
  go_ret2
  exact ⟨by rw [hr.out];rfl,b1⟩
end Go.Proofs.Ytofpjonggpjneaa

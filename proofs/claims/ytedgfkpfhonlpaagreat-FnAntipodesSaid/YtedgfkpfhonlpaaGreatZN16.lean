/- Lemmas (16). -/
import Derived.Test.YtedgfkpfhonlpaaGreatZN0
import Derived.Test.YtedgfkpfhonlpaaGreatZN5
import Derived.Test.YtedgfkpfhonlpaaGreatZN8
import Derived.Test.YtedgfkpfhonlpaaGreatZN9
import Derived.Test.YtedgfkpfhonlpaaGreatZN10
import Derived.Test.YtedgfkpfhonlpaaGreatZN14
import Derived.Test.YtedgfkpfhonlpaaGreatZN15
set_option maxHeartbeats 16000000
set_option maxRecDepth 100000
set_option linter.unusedSimpArgs false
set_option linter.unusedVariables false
namespace Go.Proofs.YtedgfkpfhonlpaaGreat
open Go.RowKit
section
structure AFnP (P:Program) (f:FuncId) (ds:List (List D)) (r:List D):Prop where
 call:∀ args w,(callFunc f args).run P w = .ok (.enter f args) w
 fn:∀ (A:Nat→Prop) w vs,(∀ b,A b→b < w.heap.size)→jX A w ds vs →
  Calls P f vs.toArray w (fun e w' => ∃ b ds',e = .returned (.pointer (some ⟨b,0,none⟩))∧w.heap.size ≤ b∧Below w.heap.size w w'∧Row w' (slv (some b) 1 1) r.length 1 ds' (some b)∧0 < r.length∧rdCs (fun c => (A c ∨ w.heap.size ≤ c)∧c ≠ b) w' ds' r)
section
variable {P:Program} {cfg:Cfg} {M:Nat→Prop} {ops:Array Oper} {s s':St} {w0:W0} {w:World} {Ok:Nat→Prop} {N:Nat} {σ:Asg} {a:Act} {fs:List Fr} {Q:Exit→St→Prop} {T:Tab P} {H:List (Nat × Obj)}
theorem rdR_one {A:Nat→Prop} {w:World} {k:Nat} {ds:List Value} {r:List D} (h:rdR k A w ds [r]):rdCs A w ds r:=by
 obtain ⟨c,e,rfl,_,_,h1,h2⟩:=h.cons_inv
 have he:e = []:=List.eq_nil_of_length_eq_zero (by rw [h2.len];simp)
 rw [he,List.append_nil];exact h1
theorem qW.callR (C:CfgOK P cfg) {o:Oper} {l:List Oper} {Q:St→Prop} (hg:o.guard = Option.none) {d:Nat} (hd:o.dst = some d) (hdN:d < cfg.N) {f:Operand} {args:Array Operand} {ts:Array TypeId} (ho:o.op = .call ⟨.value f,args,ts⟩) {g:FuncId} (hf:((opv s.regs f).bind avD).bind fnId = some g)
  {ds:List (List D)} (hds:aargs cfg (fun k => look k s.heap) s.regs args.toList ts.toList = some ds) (hs:qM s.regs args.toList = []) {r:List D} (hfn:AFnP P g ds r) (hfr:fresh s d = true) (h:∀ b,qW P cfg M ops l Q ⟨insR d (.optr d 0 0) s.regs,insR d (.pin (some b) 1 r.length [r]) s.heap⟩):qW P cfg M ops (o :: l) Q s:=by
 intro w0 Ok σ a w Q' hM hS hQ
 refine wpList_step (fun K hK => ?_)
 have hw:qN ops s.regs o = some true:=by unfold qN;rw [hg]
 rw [xX hS hw]
 simp only [if_true]
 obtain ⟨_,l2⟩:=vQ C hS hds
 have hfv:a.eval f = .func (.func g) #[] #[]:=qA0 hS hf
 have hrun:(execOp a.eval o).run P w = .ok (.enter g (args.map a.eval)) w:=by
  unfold execOp
  rw [ho]
  simp [resolve,Deferred.ofValue,hfv,invoke,hfn.call]
 have hcall:=hfn.fn (Zn σ s.heap w) w (args.toList.map a.eval) (fun _ h => h.1) (l2 hs)
 unfold Oper.wp
 rw [hrun,Oper.upon_enter]
 have e:(args.toList.map a.eval).toArray = args.map a.eval:=by rw [← Array.toList_map,Array.toArray_toList]
 rw [← e]
 refine hcall.mono ?_
 rintro e w' ⟨b,ds',rfl,hb,hB,hrow,hk,hrd⟩
 have hfree:=kV hfr
 obtain ⟨σ',k0,k1,k2,hZ,hS'⟩:=hS.new hB d (.row r.length [r] false) hfree (some b) 1 [] ds' hrow hk (fun σ' hok hF hg' hgo hZ hst => by
  show rdR r.length (Zn σ' _ w') w' ds' [r]
  refine rdR.single hk rfl (hrd.mono (fun c hc hlt => ?_))
  rcases hc.1 with h1|h1
  ·exact (hZ c h1).1
  ·refine ⟨hlt,by rw [hok];exact hS.ok1 c (.inl (Nat.le_trans hS.below.size h1)),fun q u hq e => ?_⟩
   simp only [look] at hq
   by_cases hqd:d = q
   ·subst hqd
    rw [hg'] at e
    cases e
    exact hc.2 rfl
   ·rw [if_neg hqd] at hq
    rw [hgo q (fun e => hqd e.symm)] at e
    have:=yG hS hq c (qI e)
    omega) (fun c hc => by
   have hc:c ∈ [b] ++ []:=hc
   rw [List.append_nil,List.mem_singleton] at hc
   rw [hc];exact hb) (by simp)
 have hS2:=Sim.setObj hS' (key:=d) (u:=.row r.length [r] false) (ob:=.pin (some b) 1 r.length [r]) (by simp [look]) rfl rfl rfl (fun H' hm _ ds _ hel => by
  have hel:rdR r.length (Zn σ' _ w') w' ds [r]:=hel
  exact ⟨k1,k2,hel.mono (fun c hc _ => hm c hc)⟩)
 have hS3:Sim w0 Ok cfg.N σ' ⟨s.regs,insR d (.pin (some b) 1 r.length [r]) s.heap⟩ a w':=hS2.forget (fun _ _ h => h) (fun q o' ho' => by
  rw [jU] at ho'
  rw [jU]
  by_cases e:d = q
  ·rw [if_pos e] at ho' ⊢;exact ho'
  ·rw [if_neg e] at ho' ⊢
   simp only [look]
   rw [if_neg e];exact ho')
 show K (a.put o.dst _) _
 rw [hd]
 refine hK _ _ (h b w0 Ok σ' _ _ Q' hM (Sim.ins hS3 hdN ?_) hQ)
 intro o' ho'
 rw [jU,if_pos rfl] at ho'
 cases ho'
 exact ⟨Nat.zero_lt_one,b,k1,by simp⟩
end
def eU (c:Int):List D:=[.raw (.int .u8 c)]
def dCode (code:List Int):D:=.sl 1 (code.map eU)
def eCode (code:List Int):List D:=[dCode code]
def srcD (code:List Int) (s:Nat × Int):List D:=[.sl 1 (code.map eU),.int s.1,.raw (.int .u64 s.2)]
def jT (code:List Int):Prop:=∀ c ∈ code,0 ≤ c∧c < 256
theorem rdU {A:Nat→Prop} {w:World}:∀ {code:List Int} {ds:List Value} {d:Nat} {hk:0 < 1},rdL (RK 1 hk (RC d)) A w ds (code.map eU)→ds = code.map fun c => Value.int .u8 c
 | [],_,_,_,h => h
 | c :: code,ds,d,hk,⟨c1,d1,e,h1,h2⟩ => by
  obtain ⟨_,_,h3⟩:=h1
  have h3:=wH.1 h3
  have hc:c1 = [Value.int .u8 c]:=by
   have:rdV A w (c1.headD undef) (.raw (.int .u8 c)):=by
    obtain ⟨x,rfl⟩:∃ x,c1 = [x]:=by
     have:=(RC d).rd_len h3
     rw [RC_k] at this
     match c1,this with
     | [x],_ => exact ⟨x,rfl⟩
    exact ⟨d,h3⟩
   have hl:=(RC d).rd_len h3
   rw [RC_k] at hl
   match c1,hl,this with
   | [x],_,this => rw [show x = _ from (yJ.1 this).1]
  rw [e,hc,rdU h2];rfl
theorem byt_of {A:Nat→Prop} {w:World} {v:Value} {code:List Int} {b:Nat} (hb:¬ A b) (hc:jT code) (h:rdV A w v (.sl 1 (code.map eU))):∃ oa cap,v = .slice oa code.length cap∧code.length ≤ cap∧cap ≤ maxLen∧(oa = none→cap = 0)∧Byt w b oa code:=by
 obtain ⟨oa,cap,ds,rfl,h1,h2,h3,h4,h5⟩:=xQ.1 h
 rw [List.length_map] at h1 ⊢
 refine ⟨oa,cap,rfl,h1,h2,h3,hc,?_⟩
 obtain ⟨d,hk,h4⟩:=h4
 have e:=rdU h4
 rcases h5 with h5|⟨b2,off,h5,h6,h7⟩
 ·left
  rw [h5] at e
  cases code with
  | nil => rfl
  | cons => cases e
 ·by_cases hn:code = []
  ·exact .inl hn
  ·refine .inr ⟨b2,off,h5,fun e => hb (e ▸ h6),fun i hi => h7 i _ ?_⟩
   rw [e,List.getElem?_map,List.getElem?_eq_getElem hi];rfl
theorem jB {code:List Int} {s:Nat × Int} {n:Int} (h:s.1 ≤ code.length):(nxtF code s n).2.1 ≤ code.length:=by
 unfold nxtF
 split
 ·exact h
 ·show (if s.1 < code.length then s.1 + 1 else s.1) ≤ _
  split <;> omega
noncomputable def nxtG (code:List Int) (k:Nat) (xs:List (List D)) (post:List (List D)):Option (List Res × List (List D)):=by
 classical
 exact if h:∃ p:(Nat × Int) × Int,p.1.1 ≤ code.length∧k = 3∧xs = [srcD code p.1]∧post = [eI p.2] then some ([.val (.int (nxtF code h.choose.1 h.choose.2).1)],[srcD code (nxtF code h.choose.1 h.choose.2).2]) else none
noncomputable def nxtE (code:List Int):PinE:=⟨true,nxtG code⟩
theorem srcD_inj {code:List Int} {s s':Nat × Int} (h:srcD code s = srcD code s'):s = s':=by
 unfold srcD at h
 simp only [List.cons.injEq,D.int.injEq,D.raw.injEq,Value.int.injEq,true_and,and_true] at h
 exact Prod.ext (by omega) h.2
theorem yR (code:List Int) (s:Nat × Int) (n:Int) (h:s.1 ≤ code.length):nxtG code 3 [srcD code s] [eI n] = some ([.val (.int (nxtF code s n).1)],[srcD code (nxtF code s n).2]):=by
 unfold nxtG
 have hx:∃ p:(Nat × Int) × Int,p.1.1 ≤ code.length∧3 = 3∧[srcD code s] = [srcD code p.1]∧[eI n] = [eI p.2]:=⟨(s,n),h,rfl,rfl,rfl⟩
 rw [dif_pos hx]
 obtain ⟨_,_,h2,h3⟩:=hx.choose_spec
 have e1:=srcD_inj (List.cons.inj h2).1
 have e2:n = hx.choose.2:=by
  exact D.int.inj (List.cons.inj (List.cons.inj h3).1).1
 rw [← e1,← e2]
section
variable {P:Program} {f:FuncId} {code:List Int} (hc:jT code) (eg:∀ args w,(callFunc f args).run P w = .ok (.enter f args) w)
 (hw:∀ (w:World) (b:Nat) (oa:Option Addr) (cap cap0:Nat) (s:Nat × Int) (n:Int),Row w (slv (some b) 1 cap0) 3 1 [.slice oa code.length cap,.int .i64 s.1,.int .u64 s.2] (some b)→Byt w b oa code→qH n→s.1 ≤ code.length→code.length ≤ 1000000000 →
  Calls P f #[.pointer (some ⟨b,0,none⟩),.int .i64 n] w (RetN w b oa cap cap0 code (nxtF code s n)))
include hc eg hw
theorem nxt_ok (hl:code.length ≤ 1000000000) (k:Nat) (xs:List (List D)) (post:List (List D)) (x:List Res × List (List D)) (hx:(nxtE code).fn k xs post = some x):AEp P f (nxtE code).ptr k xs post (fun rs xs' => rs = x.1∧xs' = x.2):=by
 have hx:nxtG code k xs post = some x:=hx
 have key:∃ (s:Nat × Int) (n:Int),s.1 ≤ code.length∧k = 3∧xs = [srcD code s]∧post = [eI n]:=by
  unfold nxtG at hx
  split at hx
  ·rename_i h;obtain ⟨p,h1,h2,h3,h4⟩:=h;exact ⟨p.1,p.2,h1,h2,h3,h4⟩
  ·cases hx
 obtain ⟨s,n,h1,rfl,rfl,rfl⟩:=key
 rw [yR code s n h1] at hx
 cases hx
 refine ⟨eg,fun A w us og cap0 ds hA hu hrow hk hrd hb => ?_⟩
 obtain ⟨b,hog⟩:=hrow.some_of (j:=0) Nat.zero_lt_one
 subst hog
 obtain ⟨cap1,hcv,_,_⟩:=hrow.slice
 have hb:=hb b rfl
 obtain ⟨u,us',rfl,hu1,hu2⟩:=hu
 have hu2:us' = []:=hu2
 subst hu2
 obtain ⟨rfl,hn⟩:=jJ.1 hu1
 have hrd:=rdR_one hrd
 obtain ⟨v0,ds1,rfl,hv0,hrd⟩:=hrd.cons_inv
 obtain ⟨v1,ds2,rfl,hv1,hrd⟩:=hrd.cons_inv
 obtain ⟨v2,ds3,rfl,hv2,hrd⟩:=hrd.cons_inv
 have hd3:ds3 = []:=List.eq_nil_of_length_eq_zero hrd.len
 subst hd3
 obtain ⟨rfl,hi⟩:=jJ.1 hv1
 obtain ⟨rfl,_⟩:=yJ.1 hv2
 obtain ⟨oa,cap,rfl,hcap,hcm,hnil,hB⟩:=byt_of hb hc hv0
 refine (hw w b oa cap cap0 s n hrow hB hn h1 hl).mono ?_
 rintro e w' ⟨rfl,hrow',hbel⟩
 have hbd:=yZ hc s n
 have hin:qH (nxtF code s n).1:=by unfold qH at hn ⊢;omega
 have hat:=jB (n:=n) h1
 refine ⟨_,_,_,[.slice oa code.length cap,.int .i64 (nxtF code s n).2.1,.int .u64 (nxtF code s n).2.2],[.int .i64 (nxtF code s n).1],[],[],rfl,⟨rfl,rfl⟩,⟨hbel.os,hbel.tape,hbel.output,hbel.size,fun c hc hne hy => hbel.block c hc (fun e => hne (by show some b = some c;rw [show c = b from e])) hy⟩,rfl,List.nodup_nil,(by simp),?_,rfl,hrow',?_⟩
 ·exact ⟨_,[],[],[],[],[],rfl,rfl,rfl,rfl,⟨jJ.2 ⟨rfl,hin⟩,rfl,rfl⟩,rfl,rfl,rfl⟩
 ·refine rdR.single (by decide) rfl (.cons ((hv0.frame (fun c hA' hlt => hbel.block c hlt (fun e => hb (e ▸ hA')) (fun h => h))).mono (fun c hA' _ => ⟨.inl hA',by simp,fun e => hb (by cases e;exact hA')⟩)) (.cons (jJ.2 ⟨rfl,?_⟩) (.cons (yJ.2 ⟨rfl,rfl⟩) .nil)))
  unfold qH;omega
end
section
variable {P:Program} {f:FuncId} {code:List Int} (hc:jT code)
include hc
theorem frm_ok (eg:∀ args w,(callFunc f args).run P w = .ok (.enter f args) w) {xs:List (List D)} {us0:List Value} (hxs:∀ A w us,jX A w xs us→us = us0) {h:Int}
  (hw:∀ (w:World) (oa:Option Addr) (cap:Nat),Byt w w.heap.size oa code→code.length ≤ cap→(oa = none→cap = 0)→Calls P f (.slice oa code.length cap :: us0).toArray w (RetP w oa cap code h)) :
  AFnP P f (eCode code :: xs) (srcD code (0,h)):=by
 refine ⟨eg,fun A w vs hA hv => ?_⟩
 obtain ⟨v,us,rfl,hv1,hv2⟩:=hv
 obtain rfl:=hxs _ _ _ hv2
 have hv1:rdV A w v (.sl 1 (code.map eU)):=hv1
 obtain ⟨oa,cap,rfl,hcap,hcm,hnil,hB⟩:=byt_of (b:=w.heap.size) (fun h => Nat.lt_irrefl _ (hA _ h)) hc hv1
 refine (hw w oa cap hB hcap hnil).mono ?_
 rintro e w' ⟨rfl,hrow,hbel⟩
 refine ⟨_,_,rfl,Nat.le_refl _,hbel,hrow,(by show 0 < 3;omega),?_⟩
 refine .cons ((hv1.frame (fun c hA' hlt => hbel.block c hlt)).mono (fun c hA' _ => ⟨.inl hA',by have:=hA c hA';omega⟩)) (.cons (jJ.2 ⟨rfl,by unfold qH;omega⟩) (.cons (yJ.2 ⟨rfl,rfl⟩) .nil))
end
theorem vE {code:List Int} (hc:jT code) (hl:code.length ≤ 1000000000) (k:Nat) (xs:List (List D)) (post:List (List D)) (x:List Res × List (List D)) (hx:(nxtE code).fn k xs post = some x):AEp Tryz.prog 82 (nxtE code).ptr k xs post (fun rs xs' => rs = x.1∧xs' = x.2) :=
 nxt_ok hc (enters_of Tryz.func82 rfl rfl) (fun w b oa cap cap0 s n h1 h2 h3 h4 h5 => c_l01Next w b oa code cap cap0 s n h1 h2 h3 h4 h5) hl k xs post x hx
def src0 (code:List Int):Nat × Int:=(0,hshF 11 (5381 + code.length) (code.take 4096))
theorem p_l01From {code:List Int} (hc:jT code) (hl:code.length ≤ 1000000000):AFnP Tryz.prog 64 [eCode code] (srcD code (src0 code)) :=
 frm_ok (xs:=[]) hc (enters_of Tryz.func64 rfl rfl) (us0:=[]) (fun _ _ _ h => h) (fun w oa cap h1 h2 h3 => c_l01From w oa code cap h1 h2 h3 hl)
end
section
theorem EndsP.mk {P:Program} {cfg:Cfg} {M:Nat→Prop} {fn:Func} {Q0:List Res→List (List D)→Prop} {og:Option Nat} {cap k n:Nat} {e:Exit} {s:St} {rs:List Res} {ks:List Nat} {xs':List (List D)} (he:e = .normal ∨ e = .ret) {rvs:List ResultVar} {ts:List TypeId} (h1:fn.results.toList = rvs) (h2:fn.resultTypes.toList = ts)
  (h:jI cfg s rvs ts = some (rs,ks)) (hk:ks.Nodup) (hz:0 ∉ ks) (hl:look 0 s.heap = some (.pin og cap k xs')) (hq:xs'.length = n∧Q0 rs xs'):outK P cfg M [] (EndsP cfg fn Q0 og cap k n) e s:=⟨he,rs,ks,xs',by rw [h1,h2];exact h,hk,hz,hl,hq.1,hq.2⟩
theorem srcD_len (code:List Int) (s:Nat × Int):(srcD code s).length = 3:=rfl
noncomputable def drwG (code:List Int) (F:(Nat × Int)→List (List D)→Option (List Res × (Nat × Int))) (k:Nat) (xs:List (List D)) (post:List (List D)):Option (List Res × List (List D)):=by
 classical
 exact if h:∃ s:Nat × Int,s.1 ≤ code.length∧k = 3∧xs = [srcD code s] then (F h.choose post).map (fun p => (p.1,[srcD code p.2])) else none
noncomputable def drwE (code:List Int) (F:(Nat × Int)→List (List D)→Option (List Res × (Nat × Int))):PinE:=⟨true,drwG code F⟩
theorem drwG_eq {code:List Int} {F:(Nat × Int)→List (List D)→Option (List Res × (Nat × Int))} {s:Nat × Int} (h:s.1 ≤ code.length) {post:List (List D)}:drwG code F 3 [srcD code s] post = (F s post).map (fun p => (p.1,[srcD code p.2])):=by
 unfold drwG
 have hx:∃ s':Nat × Int,s'.1 ≤ code.length∧3 = 3∧[srcD code s] = [srcD code s']:=⟨s,h,rfl,rfl⟩
 rw [dif_pos hx]
 obtain ⟨_,_,h2⟩:=hx.choose_spec
 rw [← srcD_inj (List.cons.inj h2).1]
def xF (P:Program) (f:FuncId) (code:List Int) (F:(Nat × Int)→List (List D)→Option (List Res × (Nat × Int))):Prop :=
 ∀ s post rs s',s.1 ≤ code.length→F s post = some (rs,s')→AEp P f true 3 [srcD code s] post (fun r x => r = rs∧x = [srcD code s'])
theorem xF.ok {P:Program} {f:FuncId} {code:List Int} {F:(Nat × Int)→List (List D)→Option (List Res × (Nat × Int))} (H:xF P f code F) (k:Nat) (xs:List (List D)) (post:List (List D)) (x:List Res × List (List D)) (hx:(drwE code F).fn k xs post = some x):AEp P f (drwE code F).ptr k xs post (fun rs xs' => rs = x.1∧xs' = x.2):=by
 have hx:drwG code F k xs post = some x:=hx
 unfold drwG at hx
 split at hx
 ·rename_i h
  obtain ⟨h1,h2,h3⟩:=h.choose_spec
  obtain ⟨p,hp,e⟩:=Option.map_eq_some_iff.1 hx
  subst h2
  rw [h3,← e]
  exact H _ _ _ _ h1 hp
 ·cases hx
def drw1 (G:(Nat × Int)→Int→List Res × (Nat × Int)) (s:Nat × Int):List (List D)→Option (List Res × (Nat × Int))
 | [[.int m]] => if -1000 ≤ m∧m ≤ 1000 then some (G s m) else none
 | _ => none
theorem qQ0 {code:List Int} {G:(Nat × Int)→Int→List Res × (Nat × Int)} {s:Nat × Int} (h:s.1 ≤ code.length) {m:Int} (hm:-1000 ≤ m∧m ≤ 1000):drwG code (drw1 G) 3 [srcD code s] [[.int m]] = some ((G s m).1,[srcD code (G s m).2]):=by
 rw [drwG_eq h]
 show Option.map _ (if -1000 ≤ m∧m ≤ 1000 then some (G s m) else none) = _
 rw [if_pos hm];rfl
theorem drw1_of {P:Program} {f:FuncId} {code:List Int} {G:(Nat × Int)→Int→List Res × (Nat × Int)} (h:∀ s m,s.1 ≤ code.length→-1000 ≤ m→m ≤ 1000→AEp P f true 3 [srcD code s] [[.int m]] (fun r x => r = (G s m).1∧x = [srcD code (G s m).2])):xF P f code (drw1 G):=by
 intro s post rs s' hs hp
 unfold drw1 at hp
 split at hp
 ·rename_i m
  split at hp
  ·rename_i hm
   have e:=Option.some.inj hp
   have e1:rs = (G s m).1:=by rw [e]
   have e2:s' = (G s m).2:=by rw [e]
   subst e1;subst e2
   exact h s m hs hm.1 hm.2
  ·cases hp
 ·cases hp
noncomputable def drwL (G:(Nat × Int)→List Int→List Res × (Nat × Int)) (s:Nat × Int) (post:List (List D)):Option (List Res × (Nat × Int)):=by
 classical
 exact if h:∃ l:List Int,l ≠ []∧l.length ≤ 1000∧post = [[.sl 1 (l.map eI)]] then some (G s h.choose) else none
theorem eI_inj {l l':List Int} (h:l.map eI = l'.map eI):l = l':=by
 induction l generalizing l' with
 | nil => cases l' with
  | nil => rfl
  | cons => cases h
 | cons a l ih => cases l' with
  | nil => cases h
  | cons b l' =>
   simp only [List.map_cons,List.cons.injEq] at h
   have h1:=D.int.inj (List.cons.inj h.1).1
   rw [h1,ih h.2]
theorem drwL_eq {code:List Int} {G:(Nat × Int)→List Int→List Res × (Nat × Int)} {s:Nat × Int} (h:s.1 ≤ code.length) {l:List Int} (h0:l ≠ []) (h1:l.length ≤ 1000):drwG code (drwL G) 3 [srcD code s] [[.sl 1 (l.map eI)]] = some ((G s l).1,[srcD code (G s l).2]):=by
 rw [drwG_eq h]
 unfold drwL
 have hx:∃ l':List Int,l' ≠ []∧l'.length ≤ 1000∧[[D.sl 1 (l.map eI)]] = [[.sl 1 (l'.map eI)]]:=⟨l,h0,h1,rfl⟩
 rw [dif_pos hx]
 obtain ⟨_,_,h2⟩:=hx.choose_spec
 have e:l.map eI = hx.choose.map eI:=by simpa using h2
 rw [← eI_inj e];rfl
theorem drwL_of {P:Program} {f:FuncId} {code:List Int} {G:(Nat × Int)→List Int→List Res × (Nat × Int)} (h:∀ s l,s.1 ≤ code.length→l ≠ []→l.length ≤ 1000→AEp P f true 3 [srcD code s] [[.sl 1 (l.map eI)]] (fun r x => r = (G s l).1∧x = [srcD code (G s l).2])):xF P f code (drwL G):=by
 intro s post rs s' hs hp
 unfold drwL at hp
 split at hp
 ·rename_i hx
  obtain ⟨h0,h1,h2⟩:=hx.choose_spec
  have e:=Option.some.inj hp
  have e1:rs = (G s hx.choose).1:=by rw [e]
  have e2:s' = (G s hx.choose).2:=by rw [e]
  rw [h2,e1,e2]
  exact h s _ hs h0 h1
 ·cases hp
def pickF (code:List Int) (s:Nat × Int) (l:List Int):Int × (Nat × Int):=(l.getD (nxtF code s l.length).1.toNat 0,(nxtF code s l.length).2)
def pickG (code:List Int) (s:Nat × Int) (l:List Int):List Res × (Nat × Int):=([.val (.int (pickF code s l).1)],(pickF code s l).2)
theorem pickF_ok {code:List Int} (hc:jT code) {s:Nat × Int} (hs:s.1 ≤ code.length) {l:List Int} (h0:l ≠ []):(pickF code s l).1 ∈ l∧(pickF code s l).2.1 ≤ code.length:=by
 have hb:=yZ hc s l.length
 have hl:0 < l.length:=List.length_pos_iff.2 h0
 refine ⟨?_,jB hs⟩
 unfold pickF
 have hi:(nxtF code s l.length).1.toNat < l.length:=by omega
 rw [List.getD_eq_getElem?_getD,List.getElem?_eq_getElem hi]
 exact List.getElem_mem _
theorem p_l01Pick {code:List Int} (hc:jT code) (hl:code.length ≤ 1000000000):xF Tryz.prog 147 code (drwL (pickG code)):=by
 refine drwL_of fun s l hs h0 h1 => ?_
 have hpin:=vE hc hl
 have hlp:0 < l.length:=List.length_pos_iff.2 h0
 have hdr:=yR code s l.length hs
 have hbd:=yZ hc s l.length
 unfold pickG pickF
 obtain ⟨⟨i,s1⟩,hp⟩:∃ p,p = nxtF code s l.length:=⟨_,rfl⟩
 rw [← hp] at hdr hbd ⊢
 simp only [eI] at hdr hbd ⊢
 have hlm:(l.map eI).length = l.length:=List.length_map _
 have i1:((0:Int) ≤ i) = True:=eq_true (by omega)
 have i2:(i < (l.length:Int)) = True:=eq_true (by omega)
 have hil:i.toNat < l.length:=by omega
 have hg:(l.map eI)[i.toNat]? = some [.int (l.getD i.toNat 0)]:=by rw [List.getElem?_map,List.getElem?_eq_getElem hil,List.getD_eq_getElem?_getD,List.getElem?_eq_getElem hil];rfl
 refine AEp.of_runs (qX 12) Tryz.func147 rfl rfl rfl (fun _ => rfl) gz ?_
 have hres:Tryz.f147.results.toList = [.tmp 4]:=rfl
 have hrts:Tryz.f147.resultTypes.toList = [2]:=rfl
 simp only [List.length_cons,List.length_nil,jL,if_true,qU,qT,eL,eI,eLL,eB,Nat.zero_add,Nat.reduceAdd]
 intro M og cap
 refine qJ.of ?_
 refine gw157 (kk 5) (Y5 hdr i1 i2 hlm hg) ?_
 exact gw158
def growD (code:List Int):Nat→(Nat × Int)→List Int→List Int × (Nat × Int)
 | 0,s,t => (t,s)
 | k + 1,s,t => growD code k (nxtF code s (t.getLastD 0 + 1)).2 (t ++ [1 + (nxtF code s (t.getLastD 0 + 1)).1])
def drawF (code:List Int) (s:Nat × Int) (m:Int):List Int × (Nat × Int):=growD code (nxtF code s m).1.toNat (nxtF code s m).2 [0]
structure TOk (n:Nat) (t:List Int):Prop where
 pos:t ≠ []
 lev:qZ t
 len:t.length ≤ n
 bd:∀ x ∈ t,0 ≤ x∧x < t.length
theorem getLastD_mem {t:List Int} (h:t ≠ []):t.getLastD 0 ∈ t:=by
 cases t with
 | nil => exact absurd rfl h
 | cons a t => rw [List.getLastD_cons];exact (by cases t <;> simp [List.getLastD])
theorem getLastD_getD {t:List Int} (h:t ≠ []):t.getLastD 0 = t.getD (t.length - 1) 0:=by
 rw [List.getD_eq_getElem?_getD,← List.getLast?_eq_getElem?]
 cases t with
 | nil => exact absurd rfl h
 | cons a t => rw [List.getLast?_cons,List.getLastD_cons,← List.getLastD_eq_getLast?];rfl
theorem growD_ok {code:List Int} (hc:jT code):∀ (k:Nat) {s:Nat × Int} {t:List Int} {n:Nat},TOk n t→s.1 ≤ code.length→TOk (n + k) (growD code k s t).1∧(growD code k s t).2.1 ≤ code.length
 | 0,_,_,_,h,hs => ⟨h,hs⟩
 | k + 1,s,t,n,h,hs => by
  have hl:=h.bd _ (getLastD_mem h.pos)
  have hb:=yZ hc s (t.getLastD 0 + 1)
  have h1:TOk (n + 1) (t ++ [1 + (nxtF code s (t.getLastD 0 + 1)).1]):=⟨by simp,h.lev.snoc (by omega) (by rw [← getLastD_getD h.pos];omega),by have:=h.len;simp;omega,fun x hx => by
   rw [List.length_append,List.length_singleton]
   rcases List.mem_append.1 hx with hx|hx
   ·have:=h.bd x hx;omega
   ·rw [List.mem_singleton] at hx;subst hx;omega⟩
  have:=growD_ok hc k h1 (jB (n:=t.getLastD 0 + 1) hs)
  rw [show n + (k + 1) = n + 1 + k by omega]
  exact this
theorem jP0 {code:List Int} (hc:jT code) {s:Nat × Int} {m:Int} (hs:s.1 ≤ code.length):TOk (1 + m.toNat) (drawF code s m).1∧(drawF code s m).2.1 ≤ code.length:=by
 have hb:=yZ hc s m
 have h:=growD_ok hc (nxtF code s m).1.toNat (s:=(nxtF code s m).2) (t:=[0]) (n:=1) ⟨by simp,by decide,by simp,by simp⟩ (jB hs)
 exact ⟨⟨h.1.pos,h.1.lev,Nat.le_trans h.1.len (by omega),h.1.bd⟩,h.2⟩
theorem drawF_len {code:List Int} (hc:jT code) {s:Nat × Int} {m:Int} (hs:s.1 ≤ code.length) (hm:1 ≤ m):(drawF code s m).1.length ≤ m.toNat:=by
 have hb:=yZ hc s m
 have h:=growD_ok hc (nxtF code s m).1.toNat (s:=(nxtF code s m).2) (t:=[0]) (n:=1) ⟨by simp,by decide,by simp,by simp⟩ (jB hs)
 exact Nat.le_trans h.1.len (by omega)
def drawG (code:List Int) (s:Nat × Int) (m:Int):List Res × (Nat × Int):=([.own 1 ((drawF code s m).1.map eI) true],(drawF code s m).2)
theorem p_l03Draw {code:List Int} (hc:jT code) (hl:code.length ≤ 1000000000):xF Tryz.prog 126 code (drw1 (drawG code)):=by
 refine drw1_of fun s m hs hm1 hm2 => ?_
 have hpin:=vE hc hl
 have hdr:=yR code s m hs
 have hbd:=yZ hc s m
 have hat:=jB (n:=m) hs
 unfold drawG drawF
 obtain ⟨⟨kk,s1⟩,hp⟩:∃ p,p = nxtF code s m:=⟨_,rfl⟩
 rw [← hp] at hdr hbd hat ⊢
 simp only at hdr hbd hat ⊢
 obtain ⟨k,rfl⟩:∃ k:Nat,kk = k:=⟨kk.toNat,by omega⟩
 rw [Int.toNat_natCast]
 have hk:k ≤ 1000:=by omega
 simp only [eI] at hdr
 refine AEp.of_runs (qX 29) Tryz.func126 rfl rfl rfl (fun _ => rfl) gz ?_
 have hres:Tryz.f126.results.toList = [.tmp 4]:=rfl
 have hrts:Tryz.f126.resultTypes.toList = [24]:=rfl
 simp only [List.length_cons,List.length_nil,jL,if_true,qU,qT,eL,eI,eLL,eB,Nat.zero_add,Nat.reduceAdd]
 intro M og cap
 refine qJ.of ?_
 refine gw157 (kk 7) hdr ?_
 refine qJ.loop (β:=Nat × (Nat × Int) × List Int) (γ:=List Int × (Nat × Int)) (fun x => ⟨[(0,.optr 0 0 0),(5,.c (.own 5 x.2.2.length)),(6,.c (.val (.int x.1)))],[(0,.pin og cap 3 [srcD code x.2.1]),(5,.row 1 (x.2.2.map eI) true)]⟩)
  (fun x => x.1 ≤ k∧x.2.1.1 ≤ code.length∧TOk (1 + (k - x.1)) x.2.2∧growD code x.1 x.2.1 x.2.2 = growD code k s1 [0]) (fun x => x.1)
  (fun z => ⟨[(0,.optr 0 0 0),(5,.c (.own 5 z.1.length))],[(0,.pin og cap 3 [srcD code z.2]),(5,.row 1 (z.1.map eI) true)]⟩) (fun z => z = growD code k s1 [0]) (k,s1,[0]) ⟨Nat.le_refl _,hat,⟨by simp,by show qZ [0];decide,by simp,by simp⟩,rfl⟩ ?_ ?_ ?_
 ·exact gw159
 ·rintro ⟨j,s,t⟩ ⟨hj,hs,ht,hgr⟩
  simp only at hj hs ht hgr
  by_cases h0:0 < j
  ·obtain ⟨j,rfl⟩:∃ i,j = i + 1:=⟨j - 1,by omega⟩
   have i1:(((j + 1:Nat):Int) > 0) = True:=eq_true (by omega)
   have hlb:=ht.bd _ (getLastD_mem ht.pos)
   have htl:=ht.len
   have htp:0 < t.length:=List.length_pos_iff.2 ht.pos
   have hdr:=yR code s (t.getLastD 0 + 1) hs
   have hbd:=yZ hc s (t.getLastD 0 + 1)
   have hat:=jB (n:=t.getLastD 0 + 1) hs
   have hgr:growD code j (nxtF code s (t.getLastD 0 + 1)).2 (t ++ [1 + (nxtF code s (t.getLastD 0 + 1)).1]) = growD code k s1 [0]:=hgr
   have hnext:=(growD_ok hc 1 ht hs).1
   have hnext:TOk (1 + (k - (j + 1)) + 1) (t ++ [1 + (nxtF code s (t.getLastD 0 + 1)).1]):=hnext
   obtain ⟨⟨x,s2⟩,hp⟩:∃ p,p = nxtF code s (t.getLastD 0 + 1):=⟨_,rfl⟩
   rw [← hp] at hdr hbd hat hgr hnext
   simp only at hdr hbd hat hgr hnext
   simp only [eI] at hdr
   have hlm:(t.map eI).length = t.length:=List.length_map _
   have i2:((0:Int) ≤ (t.length:Int) - 1) = True:=eq_true (by omega)
   have i3:((t.length:Int) - 1 < (t.length:Int)) = True:=eq_true (by omega)
   have w1:w64 ((t.length:Int) - 1) = (t.length:Int) - 1:=qL (by omega)
   have w2:w64 (t.getLastD 0 + 1) = t.getLastD 0 + 1:=qL (by omega)
   have w3:w64 (1 + x) = 1 + x:=qL (by omega)
   have w4:w64 (((j + 1:Nat):Int) - 1) = j:=by rw [qL (by omega)];omega
   have hg:(t.map eI)[((t.length:Int) - 1).toNat]? = some [.int (t.getLastD 0)]:=by
    have e:((t.length:Int) - 1).toNat = t.length - 1:=by omega
    rw [e,List.getElem?_map,← List.getLast?_eq_getElem?]
    cases t with
    | nil => exact absurd rfl ht.pos
    | cons a t => rw [List.getLast?_cons,List.getLastD_cons,← List.getLastD_eq_getLast?];rfl
   have q1:=jW (n:=t.length + 1) (by omega)
   have q2:=jZ (n:=t.length + 1) (c:=8) (by omega) (by omega)
   refine gw157 (kk 7) (Y12 hdr i1 i2 i3 w1 w2 w3 w4 hg hlm q1 q2) ?_
   refine qY.on (j,s2,t ++ [1 + x]) ⟨⟨by omega,hat,by rw [show 1 + (k - j) = 1 + (k - (j + 1)) + 1 by omega];exact hnext,hgr⟩,by simp⟩ ?_
   exact gw160
  ·obtain rfl:j = 0:=by omega
   have i1:(((0:Nat):Int) > 0) = False:=eq_false (by omega)
   refine gw7 (kk 7) i1 ?_
   refine qY.out (t,s) hgr ?_
   exact gw159
 rintro z rfl
 refine gw7 (kk 7) Y0 ?_
 exact gw158
def xO (code:List Int) (s:Nat × Int) (m:Int):List Int × (Nat × Int) :=
 let p:=drawF code s m
 let c:=nxtF code p.2 24
 if c.1 = 0 then
  let i:=nxtF code c.2 p.1.length
  let v:=nxtF code i.2 6
  (p.1.set i.1.toNat (v.1 - 1),v.2)
 else if c.1 = 1 then ([],c.2)
 else if c.1 = 2 then (p.1 ++ List.replicate 8 1,c.2)
 else (p.1,c.2)
structure AOk (n:Nat) (t:List Int):Prop where
 len:t.length ≤ n
 bd:∀ x ∈ t,-1 ≤ x∧x ≤ n
theorem drawAnyF_ok {code:List Int} (hc:jT code) {s:Nat × Int} {m:Int} (hs:s.1 ≤ code.length):AOk (9 + m.toNat) (xO code s m).1∧(xO code s m).2.1 ≤ code.length:=by
 obtain ⟨h1,h2⟩:=jP0 hc (m:=m) hs
 unfold xO
 obtain ⟨p,hp⟩:∃ p,p = drawF code s m:=⟨_,rfl⟩
 rw [← hp] at h1 h2 ⊢
 simp only
 have hl:=h1.len
 have ha:AOk (9 + m.toNat) p.1:=⟨by omega,fun x hx => by have:=h1.bd x hx;omega⟩
 have h3:=jB (n:=24) h2
 have hcb:=yZ hc p.2 24
 obtain ⟨c,hcd⟩:∃ c,c = nxtF code p.2 24:=⟨_,rfl⟩
 rw [← hcd] at h3 hcb ⊢
 split
 ·have h4:=jB (n:=(p.1.length:Int)) h3
  have h5:=jB (n:=6) h4
  have h6:=yZ hc (nxtF code c.2 p.1.length).2 6
  refine ⟨⟨by simp;omega,fun x hx => ?_⟩,h5⟩
  rcases List.mem_or_eq_of_mem_set hx with hx|hx
  ·exact ha.bd x hx
  ·omega
 ·split
  ·exact ⟨⟨by simp,by simp⟩,h3⟩
  ·split
   ·refine ⟨⟨by simp;omega,fun x hx => ?_⟩,h3⟩
    rcases List.mem_append.1 hx with hx|hx
    ·exact ha.bd x hx
    ·rw [List.eq_of_mem_replicate hx];omega
   ·exact ⟨ha,h3⟩
def drawAnyG (code:List Int) (s:Nat × Int) (m:Int):List Res × (Nat × Int):=([.own 1 ((xO code s m).1.map eI) true],(xO code s m).2)
theorem p_l03DrawAny {code:List Int} (hc:jT code) (hl:code.length ≤ 1000000000):xF Tryz.prog 127 code (drw1 (drawAnyG code)):=by
 refine drw1_of fun s m hs hm1 hm2 => ?_
 have hpin:=vE hc hl
 have hdw:=(p_l03Draw hc hl).ok
 have hdt:drwG code (drw1 (drawG code)) 3 [srcD code s] [[.int m]] = some ([.own 1 ((drawF code s m).1.map eI) true],[srcD code (drawF code s m).2]):=qQ0 hs ⟨hm1,hm2⟩
 obtain ⟨h1,h2⟩:=jP0 hc (m:=m) hs
 have hdr:=yR code (drawF code s m).2 24 h2
 have hbd:=yZ hc (drawF code s m).2 24
 have hat:=jB (n:=24) h2
 unfold drawAnyG xO
 obtain ⟨⟨t,s1⟩,hp⟩:∃ p,p = drawF code s m:=⟨_,rfl⟩
 rw [← hp] at h1 h2 hdr hbd hat hdt ⊢
 simp only at h1 h2 hdr hbd hat hdt ⊢
 obtain ⟨⟨c,s2⟩,hq⟩:∃ p,p = nxtF code s1 24:=⟨_,rfl⟩
 rw [← hq] at hdr hbd hat ⊢
 simp only at hdr hbd hat ⊢
 have htl:=h1.len
 have htp:0 < t.length:=List.length_pos_iff.2 h1.pos
 have hlm:(t.map eI).length = t.length:=List.length_map _
 simp only [eI] at hdr
 by_cases c0:c = 0
 ·subst c0
  have hdr2:=yR code s2 t.length hat
  have hbd2:=yZ hc s2 t.length
  have hat2:=jB (n:=(t.length:Int)) hat
  obtain ⟨⟨i,s3⟩,hq2⟩:∃ p,p = nxtF code s2 t.length:=⟨_,rfl⟩
  rw [← hq2] at hdr2 hbd2 hat2 ⊢
  simp only at hdr2 hbd2 hat2 ⊢
  have hdr3:=yR code s3 6 hat2
  have hbd3:=yZ hc s3 6
  obtain ⟨⟨v,s4⟩,hq3⟩:∃ p,p = nxtF code s3 6:=⟨_,rfl⟩
  rw [← hq3] at hdr3 hbd3 ⊢
  simp only [eI,if_true] at hdr2 hdr3 hbd3 ⊢
  have i1:((0:Int) ≤ i) = True:=eq_true (by omega)
  have i2:(i < (t.length:Int)) = True:=eq_true (by omega)
  have w1:w64 (v - 1) = v - 1:=qL (by omega)
  have hst:(t.set i.toNat (v - 1)).map eI = (t.map eI).set i.toNat [.int (v - 1)]:=by rw [List.map_set];rfl
  have hil:i.toNat < t.length:=by omega
  have hg:(t.map eI)[i.toNat]? = some [.int t[i.toNat]]:=by rw [List.getElem?_map,List.getElem?_eq_getElem hil];rfl
  rw [hst]
  refine AEp.of_runs (qX 35) Tryz.func127 rfl rfl rfl (fun _ => rfl) gz ?_
  have hres:Tryz.f127.results.toList = [.tmp 4]:=rfl
  have hrts:Tryz.f127.resultTypes.toList = [24]:=rfl
  simp only [List.length_cons,List.length_nil,jL,if_true,qU,qT,eL,eI,eLL,eB,Nat.zero_add,Nat.reduceAdd]
  intro M og cap
  refine qJ.of ?_
  refine gw161 (kk 12) (Y9 hdr hdr2 hdr3 hdt i1 i2 w1 hlm hg) ?_
  exact gw158
 ·have e0:(c == 0) = false:=by simp [c0]
  by_cases c1:c = 1
  ·subst c1
   rw [if_neg c0,if_pos rfl]
   refine AEp.of_runs (qX 35) Tryz.func127 rfl rfl rfl (fun _ => rfl) gz ?_
   have hres:Tryz.f127.results.toList = [.tmp 4]:=rfl
   have hrts:Tryz.f127.resultTypes.toList = [24]:=rfl
   simp only [List.length_cons,List.length_nil,jL,if_true,qU,qT,eL,eI,eLL,eB,Nat.zero_add,Nat.reduceAdd]
   intro M og cap
   refine qJ.of ?_
   refine gw161 (kk 12) (Y4 hdr hdt e0 hlm) ?_
   exact gw158
  ·by_cases c2:c = 2
   ·subst c2
    rw [if_neg c0,if_neg c1,if_pos rfl]
    refine AEp.of_runs (qX 35) Tryz.func127 rfl rfl rfl (fun _ => rfl) gz ?_
    have hres:Tryz.f127.results.toList = [.tmp 4]:=rfl
    have hrts:Tryz.f127.resultTypes.toList = [24]:=rfl
    simp only [List.length_cons,List.length_nil,jL,if_true,qU,qT,eL,eI,eLL,eB,Nat.zero_add,Nat.reduceAdd]
    intro M og cap
    refine qJ.of ?_
    refine gw161 (kk 12) (Y4 hdr hdt e0 hlm) ?_
    refine qJ.loop (β:=Nat) (γ:=Unit) (fun j => ⟨[(0,.optr 0 0 0),(5,.c (.own 5 (t.length + j))),(6,.c (.val (.int j)))],[(0,.pin og cap 3 [srcD code s2]),(5,.row 1 ((t ++ List.replicate j 1).map eI) true)]⟩) (fun j => j ≤ 8) (fun j => 8 - j)
     (fun _ => ⟨[(0,.optr 0 0 0),(5,.c (.own 5 (t.length + 8)))],[(0,.pin og cap 3 [srcD code s2]),(5,.row 1 ((t ++ List.replicate 8 1).map eI) true)]⟩) (fun _ => True) 0 (Nat.zero_le _) ?_ ?_ ?_
    ·exact gw162
    ·intro j hj
     have hj:j ≤ 8:=hj
     have hw:=qD (n:=j) (by omega)
     by_cases hj8:j < 8
     ·have j1:((j:Int) < 8) = True:=eq_true (by omega)
      have hrl:((t ++ List.replicate j (1:Int)).map eI).length = t.length + j:=by simp
      have hrx:(t ++ List.replicate (j + 1) (1:Int)).map eI = (t ++ List.replicate j (1:Int)).map eI ++ [[.int 1]]:=by
       rw [List.replicate_succ',← List.append_assoc,List.map_append];rfl
      obtain ⟨R,hR⟩:∃ R,R = (t ++ List.replicate j (1:Int)).map eI:=⟨_,rfl⟩
      rw [← hR] at hrl hrx ⊢
      have q1:=jW (n:=t.length + j + 1) (by omega)
      have q2:=jZ (n:=t.length + j + 1) (c:=8) (by omega) (by omega)
      refine gw7 (kk 12) (Y5 j1 hw hrl q1 q2) ?_
      refine qY.on (j + 1) ⟨by omega,by omega⟩ ?_
      rw [hrx]
      exact gw159
     ·obtain rfl:j = 8:=by omega
      have j1:(((8:Nat):Int) < 8) = False:=eq_false (by omega)
      refine gw7 (kk 12) j1 ?_
      refine qY.out () trivial ?_
      exact gw159
    rintro _ _
    refine gw7 (kk 12) Y0 ?_
    exact gw158
   ·have e1:(c == 1) = false:=by simp [c1]
    have e2:(c == 2) = false:=by simp [c2]
    rw [if_neg c0,if_neg c1,if_neg c2]
    refine AEp.of_runs (qX 35) Tryz.func127 rfl rfl rfl (fun _ => rfl) gz ?_
    have hres:Tryz.f127.results.toList = [.tmp 4]:=rfl
    have hrts:Tryz.f127.resultTypes.toList = [24]:=rfl
    simp only [List.length_cons,List.length_nil,jL,if_true,qU,qT,eL,eI,eLL,eB,Nat.zero_add,Nat.reduceAdd]
    intro M og cap
    refine qJ.of ?_
    refine gw161 (kk 12) (Y6 hdr hdt e0 e1 e2 hlm) ?_
    exact gw158
end
section
def dforF (code:List Int):Nat→Nat→(Nat × Int)→List (List Int)→List (List Int) × (Nat × Int)
 | 0,_,s,out => (out,s)
 | f + 1,left,s,out =>
  if left = 0 then (out,s) else
  let p:=drawF code s left
  if out ≠ []∧(out.getLastD []).length ≤ left then
   let c:=nxtF code p.2 3
   let t:=if c.1 = 0 then out.getLastD [] else canon p.1
   dforF code f (left - t.length) c.2 (out ++ [t])
  else dforF code f (left - (canon p.1).length) p.2 (out ++ [canon p.1])
def yI (code:List Int) (s:Nat × Int) (m:Int):List (List Int) × (Nat × Int) :=
 let n:=nxtF code s (m + 1)
 let r:=dforF code n.1.toNat n.1.toNat n.2 []
 (forest r.1,r.2)
structure FOk (n:Nat) (f:List (List Int)):Prop where
 lev:∀ t ∈ f,qZ t
 can:∀ t ∈ f,canon t = t
 sum:qQ f ≤ n
theorem qZ.posL {t:List Int} (h:qZ t):0 < t.length:=h.pos
theorem FOk.snoc {n k:Nat} {f:List (List Int)} {t:List Int} (h:FOk n f) (hl:qZ t) (hc:canon t = t) (hk:t.length ≤ k):FOk (n + k) (f ++ [t]):=by
 refine ⟨fun x hx => ?_,fun x hx => ?_,?_⟩
 ·rcases List.mem_append.1 hx with hx|hx
  ·exact h.lev x hx
  ·rw [List.mem_singleton] at hx;subst hx;exact hl
 ·rcases List.mem_append.1 hx with hx|hx
  ·exact h.can x hx
  ·rw [List.mem_singleton] at hx;subst hx;exact hc
 ·have:=h.sum
  rw [kE]
  have:qQ [t] = t.length:=by simp [qQ]
  omega
theorem getLastL_mem {f:List (List Int)} (h:f ≠ []):f.getLastD [] ∈ f:=by
 cases f with
 | nil => exact absurd rfl h
 | cons a t => rw [List.getLastD_cons];exact (by cases t <;> simp [List.getLastD])
theorem dforF_ok {code:List Int} (hc:jT code):∀ (fu left n:Nat) {s:Nat × Int} {out:List (List Int)},FOk n out→s.1 ≤ code.length→FOk (n + left) (dforF code fu left s out).1∧(dforF code fu left s out).2.1 ≤ code.length
 | 0,left,n,s,out,h,hs => ⟨⟨h.lev,h.can,by have:=h.sum;show qQ out ≤ _;omega⟩,hs⟩
 | fu + 1,left,n,s,out,h,hs => by
  have h':FOk (n + left) out:=⟨h.lev,h.can,by have:=h.sum;omega⟩
  unfold dforF
  split
  ·exact ⟨h',hs⟩
  ·rename_i hl0
   obtain ⟨h1,h2⟩:=jP0 hc (m:=left) hs
   have h3:=drawF_len hc (m:=left) hs (by omega)
   have hlev:=xG h1.lev
   have hlen:=wX h1.lev
   have hidem:=wV h1.lev
   obtain ⟨p,hp⟩:∃ p,p = drawF code s left:=⟨_,rfl⟩
   rw [← hp] at h1 h2 h3 hlev hlen hidem ⊢
   simp only
   have h3:p.1.length ≤ left:=by omega
   have key:∀ (t:List Int) (s':Nat × Int),qZ t→canon t = t→t.length ≤ left→s'.1 ≤ code.length→FOk (n + left) (dforF code fu (left - t.length) s' (out ++ [t])).1∧(dforF code fu (left - t.length) s' (out ++ [t])).2.1 ≤ code.length:=by
    intro t s' k1 k2 k3 k4
    have:=dforF_ok hc fu (left - t.length) (n + t.length) (h.snoc k1 k2 (Nat.le_refl _)) k4
    rw [show n + t.length + (left - t.length) = n + left by omega] at this
    exact this
   split
   ·rename_i ho
    have hm:=getLastL_mem ho.1
    have h4:=jB (n:=3) h2
    split
    ·exact key _ _ (h.lev _ hm) (h.can _ hm) ho.2 h4
    ·exact key _ _ hlev hidem (by omega) h4
   ·exact key _ _ hlev hidem (by omega) h2
theorem lastL_get {f:List (List Int)} (h:f ≠ []):Option.map eL f.getLast? = some [.sl 1 ((f.getLastD []).map eI)]:=by
 cases f with
 | nil => exact absurd rfl h
 | cons a t => rw [List.getLast?_cons,List.getLastD_cons,← List.getLastD_eq_getLast?];rfl
theorem qH0 {f:List (List Int)} (h:∀ t ∈ f,qZ t):f.length ≤ qQ f:=by
 induction f with
 | nil => exact Nat.le_refl _
 | cons a f ih =>
  have h1:=(h a (by simp)).pos
  have h2:=ih (fun t ht => h t (by simp [ht]))
  have e:qQ (a :: f) = a.length + qQ f:=by simp [qQ]
  rw [e,List.length_cons];omega
def vM (code:List Int) (s:Nat × Int) (m:Int):List Res × (Nat × Int):=([.own 1 ((yI code s m).1.map eL) true],(yI code s m).2)
theorem kG0 {code:List Int} (hc:jT code) (hl:code.length ≤ 1000000000):xF Tryz.prog 125 code (drw1 (vM code)):=by
 refine drw1_of fun s m hs hm1 hm2 => ?_
 have hpin:=vE hc hl
 have hdw:=(p_l03Draw hc hl).ok
 have hw0:w64 (m + 1) = m + 1:=qL (by omega)
 have hdr:=yR code s (m + 1) hs
 have hbd:=yZ hc s (m + 1)
 have hat:=jB (n:=m + 1) hs
 unfold vM yI
 obtain ⟨⟨nn,s1⟩,hp⟩:∃ p,p = nxtF code s (m + 1):=⟨_,rfl⟩
 rw [← hp] at hdr hbd hat ⊢
 simp only [eI] at hdr hbd hat ⊢
 obtain ⟨n,rfl⟩:∃ n:Nat,nn = n:=⟨nn.toNat,by omega⟩
 have hn:n ≤ 1000:=by omega
 rw [Int.toNat_natCast]
 have hok:=(dforF_ok hc n n 0 (s:=s1) (out:=[]) ⟨by simp,by simp,by simp [qQ]⟩ hat).1
 obtain ⟨Z,hZ⟩:∃ Z,Z = dforF code n n s1 []:=⟨_,rfl⟩
 rw [← hZ] at hok ⊢
 have hso:=a_l03Sort Z.1 (by
  have:=qH0 (f:=Z.1) hok.lev
  have:=hok.sum
  omega) (fun b hb => by
  have:=jK hb
  have:=hok.sum
  omega)
 simp only [eLL,eL] at hso
 refine AEp.of_runs (qX 60) Tryz.func125 rfl rfl rfl (fun _ => rfl) gz ?_
 have hres:Tryz.f125.results.toList = [.tmp 4]:=rfl
 have hrts:Tryz.f125.resultTypes.toList = [36]:=rfl
 simp only [List.length_cons,List.length_nil,jL,if_true,qU,qT,eL,eI,eLL,eB,Nat.zero_add,Nat.reduceAdd]
 intro M og cap
 refine qJ.of ?_
 repeat' (first|with_reducible (first|refine Q1 ?_|refine Q2 ?_|refine Q3 ?_|refine Q4 ?_|refine Q5 ?_|refine Q6 ?_|refine Q7 ?_|refine Q8 ?_|refine Q9 ?_|refine Qa ?_|refine Qb ?_|refine Qc ?_|refine Qd ?_|refine Qe ?_|refine Qf ?_|refine QO ?_|refine QV 8 ?_|refine QY 8 ?_)|with_reducible ((first|apply QS (qX 60) (Tab.none.pin 82 (nxtE code) hpin)|apply QC);refine QW ?_;simp only [Zg,Zi,seval,hdr,nxtE,hw0];rfl))
 refine qJ.loop (β:=Nat × Nat × (Nat × Int) × List (List Int)) (γ:=Unit) (fun x => ⟨[(0,.optr 0 0 0),(5,.c (.own 5 x.2.2.2.length)),(6,.c (.val (.int x.2.1)))],[(0,.pin og cap 3 [srcD code x.2.2.1]),(5,.row 1 (x.2.2.2.map eL) false)]⟩)
  (fun x => x.2.1 ≤ x.1∧x.2.1 ≤ n∧x.2.2.1.1 ≤ code.length∧FOk (n - x.2.1) x.2.2.2∧dforF code x.1 x.2.1 x.2.2.1 x.2.2.2 = Z) (fun x => x.2.1)
  (fun _ => ⟨[(0,.optr 0 0 0),(5,.c (.own 5 Z.1.length))],[(0,.pin og cap 3 [srcD code Z.2]),(5,.row 1 (Z.1.map eL) false)]⟩) (fun _ => True) (n,n,s1,[]) ⟨Nat.le_refl _,Nat.le_refl _,hat,⟨by simp,by simp,by simp [qQ]⟩,hZ.symm⟩ ?_ ?_ ?_
 ·(repeat' (first|exact Qn|((with_reducible refine Qr ?_ ?_);focus first|with_reducible rfl|(simp only [Zz,Nat.reduceBEq,List.map_nil,List.length_nil];done)|rfl)|((with_reducible apply Qj);rfl)|((with_reducible refine Qw ?_ ?_);(focus first|with_reducible rfl|(simp only [Zv,List.map_nil,List.length_nil];done));first|exact id|exact nofun|exact fun _=>rfl)))
  all_goals first|exact ⟨rfl,rfl⟩|exact ⟨rfl,rfl,id⟩|exact ⟨rfl,rfl,rfl,rfl⟩|exact ⟨rfl,rfl,fun h => nomatch h⟩
 ·rintro ⟨k,left,s,out⟩ ⟨hlk,hln,hs,hfo,hdz⟩
  simp only at hlk hln hs hfo hdz
  by_cases h0:0 < left
  rotate_left
  ·obtain rfl:left = 0:=by omega
   have e:dforF code k 0 s out = (out,s):=by cases k <;> rfl
   rw [e] at hdz
   have i1:(((0:Nat):Int) > 0) = False:=eq_false (by omega)
   rw [← hdz]
   repeat' (first|with_reducible (first|refine Q1 ?_|refine Q2 ?_|refine Q3 ?_|refine Q4 ?_|refine Q5 ?_|refine Q6 ?_|refine Q7 ?_|refine Q8 ?_|refine Q9 ?_|refine Qa ?_|refine Qb ?_|refine Qc ?_|refine Qd ?_|refine Qe ?_|refine Qf ?_|refine QO ?_|refine QV 8 ?_|refine QY 8 ?_)|with_reducible ((first|apply QS (qX 60) Tab.none|apply QC);refine QW ?_;simp only [Zg,Zi,seval,i1];rfl))
   refine qY.out () trivial ?_
   (repeat' (first|exact Qn|((with_reducible refine Qr ?_ ?_);focus first|with_reducible rfl|(simp only [Zz,Nat.reduceBEq];done)|rfl)|((with_reducible apply Qj);rfl)|((with_reducible refine Qw ?_ ?_);(focus first|with_reducible rfl|(simp only [Zv];done));first|exact id|exact nofun|exact fun _=>rfl)))
   all_goals first|exact ⟨rfl,rfl⟩|exact ⟨rfl,rfl,id⟩|exact ⟨rfl,rfl,rfl,rfl⟩
  obtain ⟨k,rfl⟩:∃ j,k = j + 1:=⟨k - 1,by omega⟩
  have i1:((left:Int) > 0) = True:=eq_true (by omega)
  have hdt:drwG code (drw1 (drawG code)) 3 [srcD code s] [[.int (left:Int)]] = some ([.own 1 ((drawF code s left).1.map eI) true],[srcD code (drawF code s left).2]):=qQ0 hs ⟨by omega,by omega⟩
  obtain ⟨g1,g2⟩:=jP0 hc (m:=left) hs
  have g3:=drawF_len hc (m:=left) hs (by omega)
  have gl:=xG g1.lev
  have gn:=wX g1.lev
  have gi:=wV g1.lev
  have hca:=xE0 (drawF code s left).1 g1.lev (by omega)
  have hds:dforF code (k + 1) left s out = (if out ≠ []∧(out.getLastD []).length ≤ left then
    dforF code k (left - (if (nxtF code (drawF code s left).2 3).1 = 0 then out.getLastD [] else canon (drawF code s left).1).length) (nxtF code (drawF code s left).2 3).2 (out ++ [if (nxtF code (drawF code s left).2 3).1 = 0 then out.getLastD [] else canon (drawF code s left).1])
   else dforF code k (left - (canon (drawF code s left).1).length) (drawF code s left).2 (out ++ [canon (drawF code s left).1])):=by
   show (if left = 0 then (out,s) else _) = _
   rw [if_neg (by omega)]
  rw [hds] at hdz
  obtain ⟨⟨p,s2⟩,hp2⟩:∃ q,q = drawF code s left:=⟨_,rfl⟩
  rw [← hp2] at hdt g1 g2 g3 gl gn gi hca hdz
  simp only at hdt g1 g2 g3 gl gn gi hca hdz
  obtain ⟨ct,hct⟩:∃ ct,ct = canon p:=⟨_,rfl⟩
  rw [← hct] at gl gn gi hca hdz
  have hol:=qH0 (f:=out) hfo.lev
  have hos:=hfo.sum
  have hom:(out.map eL).length = out.length:=List.length_map _
  have q1:=jW (n:=out.length + 1) (by omega)
  have q2:=jZ (n:=out.length + 1) (c:=24) (by omega) (by omega)
  have hwl:w64 (((out.length + 1:Nat):Int) - 1) = (out.length:Int):=by rw [qL (by omega)];omega
  have k2:((0:Int) ≤ (out.length:Int)) = True:=eq_true (by omega)
  have k3:((out.length:Int) < ((out.length + 1:Nat):Int)) = True:=eq_true (by omega)
  have key:∀ (t:List Int) (s':Nat × Int),qZ t→canon t = t→t.length ≤ left→s'.1 ≤ code.length→dforF code k (left - t.length) s' (out ++ [t]) = Z →
    (left - t.length ≤ k∧left - t.length ≤ n∧s'.1 ≤ code.length∧FOk (n - (left - t.length)) (out ++ [t])∧dforF code k (left - t.length) s' (out ++ [t]) = Z)∧left - t.length < left:=fun t s' h1 h2 h3 h4 h5 => by
   have:=h1.posL
   have hsn:=hfo.snoc h1 h2 (Nat.le_refl t.length)
   refine ⟨⟨by omega,by omega,h4,?_,h5⟩,by omega⟩
   rw [show n - (left - t.length) = n - left + t.length by omega]
   exact hsn
  have hgt:∀ t:List Int,(out.map eL ++ [[D.sl 1 (t.map eI)]])[out.length]? = some [D.sl 1 (t.map eI)]:=fun t => by
   rw [List.getElem?_append_right (by rw [hom];exact Nat.le_refl _),hom,Nat.sub_self];rfl
  have hgtl:∀ t:List Int,(out.map eL ++ [[D.sl 1 (t.map eI)]]).length = out.length + 1:=fun t => by rw [List.length_append,hom];rfl
  simp only [eL] at hca
  by_cases ho:out = []
  ·subst ho
   rw [if_neg (fun h => h.1 rfl)] at hdz
   obtain ⟨kk,kl⟩:=key ct s2 gl gi (by omega) g2 hdz
   have z1:(((0:Nat):Int) > 0) = False:=eq_false (by omega)
   have hcl:(ct.map eI).length = ct.length:=List.length_map _
   have hw6:w64 ((left:Int) - (ct.length:Int)) = ((left - ct.length:Nat):Int):=by rw [qL (by omega)];omega
   have u1:w64 (1 - 1) = 0:=by rw [qL (by omega)];rfl
   have u2:((0:Int) ≤ 0) = True:=eq_true (by omega)
   have u3:((0:Int) < 1) = True:=eq_true (by omega)
   have t0:(0:Int).toNat = 0:=rfl
   have u0:w64 0 = 0:=by rw [qL (by omega)]
   have u1':w64 (((1:Nat):Int) - 1) = 0:=by rw [qL (by omega)];rfl
   have u3':((0:Int) < ((1:Nat):Int)) = True:=eq_true (by omega)
   repeat' (first|with_reducible (first|refine Q1 ?_|refine Q2 ?_|refine Q3 ?_|refine Q4 ?_|refine Q5 ?_|refine Q6 ?_|refine Q7 ?_|refine Q8 ?_|refine Q9 ?_|refine Qa ?_|refine Qb ?_|refine Qc ?_|refine Qd ?_|refine Qe ?_|refine Qf ?_|refine QO ?_|refine QV 8 ?_|refine QY 8 ?_)|with_reducible ((first|apply QS (qX 60) ((((Tab.none.pin 82 (nxtE code) hpin).pin 126 (drwE code (drw1 (drawG code))) hdw).at' 186 hca))|apply QC);refine QW ?_;simp only [Zg,Zi,seval,hdt,nxtE,drwE,i1,z1,q1,q2,hcl,hw6,u0,u1,u1',u2,u3,u3',t0];rfl))
   refine qY.on (k,left - ct.length,s2,[ct]) ⟨kk,kl⟩ ?_
   (repeat' (first|exact Qn|((with_reducible refine Qr ?_ ?_);focus first|with_reducible rfl|(simp only [Zz,Nat.reduceBEq,List.map_cons,List.map_nil,eL,List.length_singleton];done)|rfl)|((with_reducible apply Qj);rfl)|((with_reducible refine Qw ?_ ?_);(focus first|with_reducible rfl|(simp only [Zv,List.map_cons,List.map_nil,eL,List.length_singleton];done));first|exact id|exact nofun|exact fun _=>rfl)))
   all_goals first|exact ⟨rfl,rfl⟩|exact ⟨rfl,rfl,id⟩|exact ⟨rfl,rfl,rfl,rfl⟩|exact ⟨rfl,rfl,fun h => nomatch h⟩
  have hop:0 < out.length:=List.length_pos_iff.2 ho
  have z1:((out.length:Int) > 0) = True:=eq_true (by omega)
  have hlm:=getLastL_mem ho
  have hll:=jK hlm
  have hlv:=hfo.lev _ hlm
  have hlc:=hfo.can _ hlm
  have hgl:(out.map eL)[out.length - 1]? = some [.sl 1 ((out.getLastD []).map eI)]:=by
   rw [List.getElem?_map,← List.getLast?_eq_getElem?]
   exact lastL_get ho
  obtain ⟨la,hla⟩:∃ la,la = out.getLastD []:=⟨_,rfl⟩
  rw [← hla] at hll hlv hlc hgl hdz
  have hlaM:(la.map eI).length = la.length:=List.length_map _
  have w5:w64 ((out.length:Int) - 1) = ((out.length - 1:Nat):Int):=by rw [qL (by omega)];omega
  have k5:((0:Int) ≤ ((out.length - 1:Nat):Int)) = True:=eq_true (by omega)
  have k6:(((out.length - 1:Nat):Int) < (out.length:Int)) = True:=eq_true (by omega)
  have hcl:(ct.map eI).length = ct.length:=List.length_map _
  have tail:∀ (t:List Int) (s':Nat × Int),t.length ≤ left→(t.map eI).length = t.length∧w64 ((left:Int) - (t.length:Int)) = ((left - t.length:Nat):Int):=fun t s' h => ⟨List.length_map _,by rw [qL (by omega)];omega⟩
  by_cases hle:la.length ≤ left
  rotate_left
  ·rw [if_neg (fun h => hle h.2)] at hdz
   obtain ⟨kk,kl⟩:=key ct s2 gl gi (by omega) g2 hdz
   have z2:((la.length:Int) ≤ (left:Int)) = False:=eq_false (by omega)
   obtain ⟨_,hw6⟩:=tail ct s2 (by omega)
   repeat' (first|with_reducible (first|refine Q1 ?_|refine Q2 ?_|refine Q3 ?_|refine Q4 ?_|refine Q5 ?_|refine Q6 ?_|refine Q7 ?_|refine Q8 ?_|refine Q9 ?_|refine Qa ?_|refine Qb ?_|refine Qc ?_|refine Qd ?_|refine Qe ?_|refine Qf ?_|refine QO ?_|refine QV 8 ?_|refine QY 8 ?_)|with_reducible ((first|apply QS (qX 60) ((((Tab.none.pin 82 (nxtE code) hpin).pin 126 (drwE code (drw1 (drawG code))) hdw).at' 186 hca))|apply QC);refine QW ?_;simp only [Zg,Zi,seval,hdt,nxtE,drwE,i1,z1,z2,q1,q2,hcl,hw6,hom,w5,k5,k6,hgl,hlaM,hwl,k2,k3,hgt,hgtl,Int.toNat_natCast];rfl))
   refine qY.on (k,left - ct.length,s2,out ++ [ct]) ⟨kk,kl⟩ ?_
   (repeat' (first|exact Qn|((with_reducible refine Qr ?_ ?_);focus first|with_reducible rfl|(simp only [Zz,Nat.reduceBEq,List.map_append,List.map_cons,List.map_nil,eL,List.length_append,List.length_singleton];done)|rfl)|((with_reducible apply Qj);rfl)|((with_reducible refine Qw ?_ ?_);(focus first|with_reducible rfl|(simp only [Zv,List.map_append,List.map_cons,List.map_nil,eL,List.length_append,List.length_singleton];done));first|exact id|exact nofun|exact fun _=>rfl)))
   all_goals first|exact ⟨rfl,rfl⟩|exact ⟨rfl,rfl,id⟩|exact ⟨rfl,rfl,rfl,rfl⟩|exact ⟨rfl,rfl,fun h => nomatch h⟩
  ·rw [if_pos ⟨ho,hle⟩] at hdz
   have z2:((la.length:Int) ≤ (left:Int)) = True:=eq_true (by omega)
   have hd3:=yR code s2 3 g2
   have ha3:=jB (n:=3) g2
   obtain ⟨⟨cc,s3⟩,hc3⟩:∃ q,q = nxtF code s2 3:=⟨_,rfl⟩
   rw [← hc3] at hd3 ha3 hdz
   simp only [eI] at hd3 ha3 hdz
   by_cases hc0:cc = 0
   ·subst hc0
    rw [if_pos rfl] at hdz
    obtain ⟨kk,kl⟩:=key la s3 hlv hlc hle ha3 hdz
    obtain ⟨_,hw6⟩:=tail la s3 hle
    have how:=a_l01Own la (by omega)
    simp only [eL] at how
    repeat' (first|with_reducible (first|refine Q1 ?_|refine Q2 ?_|refine Q3 ?_|refine Q4 ?_|refine Q5 ?_|refine Q6 ?_|refine Q7 ?_|refine Q8 ?_|refine Q9 ?_|refine Qa ?_|refine Qb ?_|refine Qc ?_|refine Qd ?_|refine Qe ?_|refine Qf ?_|refine QO ?_|refine QV 8 ?_|refine QY 8 ?_)|with_reducible ((first|apply QS (qX 60) (((((Tab.none.pin 82 (nxtE code) hpin).pin 126 (drwE code (drw1 (drawG code))) hdw).at' 186 hca).at' 133 how))|apply QC);refine QW ?_;simp only [Zg,Zi,seval,hdt,hd3,nxtE,drwE,i1,z1,z2,q1,q2,hcl,hw6,hom,w5,k5,k6,hgl,hlaM,hwl,k2,k3,hgt,hgtl,Int.toNat_natCast];rfl))
    refine qY.on (k,left - la.length,s3,out ++ [la]) ⟨kk,kl⟩ ?_
    (repeat' (first|exact Qn|((with_reducible refine Qr ?_ ?_);focus first|with_reducible rfl|(simp only [Zz,Nat.reduceBEq,List.map_append,List.map_cons,List.map_nil,eL,List.length_append,List.length_singleton];done)|rfl)|((with_reducible apply Qj);rfl)|((with_reducible refine Qw ?_ ?_);(focus first|with_reducible rfl|(simp only [Zv,List.map_append,List.map_cons,List.map_nil,eL,List.length_append,List.length_singleton];done));first|exact id|exact nofun|exact fun _=>rfl)))
    all_goals first|exact ⟨rfl,rfl⟩|exact ⟨rfl,rfl,id⟩|exact ⟨rfl,rfl,rfl,rfl⟩|exact ⟨rfl,rfl,fun h => nomatch h⟩
   ·rw [if_neg hc0] at hdz
    obtain ⟨kk,kl⟩:=key ct s3 gl gi (by omega) ha3 hdz
    obtain ⟨_,hw6⟩:=tail ct s3 (by omega)
    have bc0:(cc == 0) = false:=by simp [hc0]
    repeat' (first|with_reducible (first|refine Q1 ?_|refine Q2 ?_|refine Q3 ?_|refine Q4 ?_|refine Q5 ?_|refine Q6 ?_|refine Q7 ?_|refine Q8 ?_|refine Q9 ?_|refine Qa ?_|refine Qb ?_|refine Qc ?_|refine Qd ?_|refine Qe ?_|refine Qf ?_|refine QO ?_|refine QV 8 ?_|refine QY 8 ?_)|with_reducible ((first|apply QS (qX 60) ((((Tab.none.pin 82 (nxtE code) hpin).pin 126 (drwE code (drw1 (drawG code))) hdw).at' 186 hca))|apply QC);refine QW ?_;simp only [Zg,Zi,seval,hdt,hd3,nxtE,drwE,i1,z1,z2,bc0,q1,q2,hcl,hw6,hom,w5,k5,k6,hgl,hlaM,hwl,k2,k3,hgt,hgtl,Int.toNat_natCast];rfl))
    refine qY.on (k,left - ct.length,s3,out ++ [ct]) ⟨kk,kl⟩ ?_
    (repeat' (first|exact Qn|((with_reducible refine Qr ?_ ?_);focus first|with_reducible rfl|(simp only [Zz,Nat.reduceBEq,List.map_append,List.map_cons,List.map_nil,eL,List.length_append,List.length_singleton];done)|rfl)|((with_reducible apply Qj);rfl)|((with_reducible refine Qw ?_ ?_);(focus first|with_reducible rfl|(simp only [Zv,List.map_append,List.map_cons,List.map_nil,eL,List.length_append,List.length_singleton];done));first|exact id|exact nofun|exact fun _=>rfl)))
    all_goals first|exact ⟨rfl,rfl⟩|exact ⟨rfl,rfl,id⟩|exact ⟨rfl,rfl,rfl,rfl⟩|exact ⟨rfl,rfl,fun h => nomatch h⟩
 ·rintro _ _
  repeat' (first|with_reducible (first|refine Q1 ?_|refine Q2 ?_|refine Q3 ?_|refine Q4 ?_|refine Q5 ?_|refine Q6 ?_|refine Q7 ?_|refine Q8 ?_|refine Q9 ?_|refine Qa ?_|refine Qb ?_|refine Qc ?_|refine Qd ?_|refine Qe ?_|refine Qf ?_|refine QO ?_|refine QV 8 ?_|refine QY 8 ?_)|with_reducible ((first|apply QS (qX 60) (Tab.none.at' 187 hso)|apply QC);refine QW ?_;simp only [Zg,Zi,seval,eL];rfl))
  (refine EndsP.mk (by simp) (rs:=?_) (ks:=?_) (xs':=?_) hres hrts ?_ ?_ ?_ ?_ ?_;rotate_left 3;(focus (simp only [Ze,Zg,Zi,seval];with_reducible rfl));(focus simp);(focus simp);(focus (simp only [look,Nat.reduceEqDiff,Nat.reduceBEq,if_true,if_false];rfl));focus (first|exact ⟨rfl,rfl⟩|exact ⟨rfl,rfl,rfl⟩|skip))
end
section
def RU:Rep Int where
 k:=1
 rd:=fun _ _ cs n => cs = [.int .u8 n]∧0 ≤ n∧n ≤ 255
 own:=fun _ cs n F => (cs = [.int .u8 n]∧0 ≤ n∧n ≤ 255)∧F = []
 kpos:=by decide
 rd_len:=by intro A w cs x h;rw [h.1];rfl
 rd_one:=by intro A w cs x h v hv;rw [h.1] at hv;simp at hv;subst hv;rfl
 rd_frame:=fun h _ => h
 rd_mono:=fun h _ => h
 own_rd:=fun h => h.1
 own_frame:=fun h _ => h
 own_lt:=by intro w cs x F h b hb;rw [h.2] at hb;simp at hb
abbrev RBytes:Rep (List Int):=RS RU
theorem opU8:Opens Tryz.prog RU 5:=by
 intro H enc w base spare held fuel cs x h
 obtain ⟨n,rfl,_,hw⟩:=DataW.trod_int Tryz.underlying5 h
 exact ⟨n,rfl,bounds_u8 hw⟩
theorem opBytes:Opens Tryz.prog RBytes 22:=Opens.slice Tryz.underlying22 (by kernel_rfl) opU8
theorem rdU_to {A:Nat→Prop} {w:World}:∀ {code:List Int} {ds:List Value},rdL RU A w ds code→rdL (RK 1 (by decide) (RC 0)) A w ds (code.map eU)∧jT code
 | [],_,h => ⟨h,fun c hc => nomatch hc⟩
 | c :: code,ds,⟨c1,d1,e,⟨h1,h2,h3⟩,h4⟩ => by
  obtain ⟨h5,h6⟩:=rdU_to h4
  refine ⟨⟨c1,d1,e,⟨by rw [h1];rfl,rfl,?_⟩,h5⟩,fun x hx => ?_⟩
  ·rw [h1]
   exact wH.2 ⟨rfl,rfl⟩
  ·rcases List.mem_cons.1 hx with rfl|hx
   ·omega
   ·exact h6 x hx
theorem arg_bytes {w:World} {u:Value} {code:List Int} (h:Rd RBytes w [u] code):vL (· < w.heap.size) w (eCode code) u∧jT code:=by
 obtain ⟨oa,cap,ds,h1,h2,h3,h4,h5,h6⟩:=h
 obtain ⟨k1,k2⟩:=rdU_to h5
 refine ⟨?_,k2⟩
 show rdV _ w u (.sl 1 (code.map eU))
 rw [xQ]
 rw [List.length_map]
 exact ⟨oa,cap,ds,(List.cons.inj h1).1,h2,h3,h4,⟨0,by decide,k1⟩,h6⟩
theorem law_code {f:FuncId} (hf:∀ code:List Int,jT code→AFn Tryz.prog f [eCode code] (· = [.val (.bool true)])) (v:Value) (code:List Int) (w:World) (h:Rd RBytes w [v] code):Calls Tryz.prog f #[v] w (RetV w (.bool true)):=by
 obtain ⟨h1,h2⟩:=arg_bytes h
 exact AFn.one (fun _ _ _ h => jN.1 h) (hf code h2) (args1 h1)
theorem a_big (code:List Int):AFn Tryz.prog 10 [eCode code] (· = [.val (.bool (decide (4096 < code.length)))]):=by
 by_cases h:4096 < code.length
 ·have i1:((code.length:Int) > 4096) = True:=eq_true (by omega)
  rw [decide_eq_true h]
  refine AFn.of_runs (qX 6) Tryz.func10 rfl rfl rfl gz ?_
  have hres:Tryz.f10.results.toList = [.tmp 2]:=rfl
  have hrts:Tryz.f10.resultTypes.toList = [4]:=rfl
  simp only [qU,qT,eL,eI,eLL,eB,Nat.zero_add,Nat.reduceAdd,eCode,dCode]
  intro M
  refine qJ.of ?_
  refine gw5 (kk 3) i1 ?_
  exact gw8
 ·have i1:((code.length:Int) > 4096) = False:=eq_false (by omega)
  rw [decide_eq_false h]
  refine AFn.of_runs (qX 6) Tryz.func10 rfl rfl rfl gz ?_
  have hres:Tryz.f10.results.toList = [.tmp 2]:=rfl
  have hrts:Tryz.f10.resultTypes.toList = [4]:=rfl
  simp only [qU,qT,eL,eI,eLL,eB,Nat.zero_add,Nat.reduceAdd,eCode,dCode]
  intro M
  refine qJ.of ?_
  refine gw5 (kk 3) i1 ?_
  exact gw8
end
section
def vX (code:List Int) (s:Nat × Int) (m:Int):List (List Int) × (Nat × Int) :=
 let f:=yI code s m
 let c:=nxtF code f.2 24
 if c.1 = 0 then
  let t:=drawF code c.2 4
  (f.1 ++ [t.1],t.2)
 else if c.1 = 1 then
  let t:=xO code c.2 3
  (f.1 ++ [t.1],t.2)
 else if c.1 = 2 then ([0,1,1] :: f.1,c.2)
 else (f.1,c.2)
structure FAOk (n:Nat) (f:List (List Int)):Prop where
 sum:qQ f ≤ n
 len:f.length ≤ n
theorem yP0 {code:List Int} (hc:jT code) {s:Nat × Int} {m:Int} (hs:s.1 ≤ code.length):FOk m.toNat (yI code s m).1∧(yI code s m).2.1 ≤ code.length:=by
 have hb:=yZ hc s (m + 1)
 have ha:=jB (n:=m + 1) hs
 obtain ⟨h1,h2⟩:=dforF_ok hc (nxtF code s (m + 1)).1.toNat (nxtF code s (m + 1)).1.toNat 0 (s:=(nxtF code s (m + 1)).2) (out:=[]) ⟨by simp,by simp,by simp [qQ]⟩ ha
 unfold yI
 simp only
 obtain ⟨Z,hZ⟩:∃ Z,Z = dforF code (nxtF code s (m + 1)).1.toNat (nxtF code s (m + 1)).1.toNat (nxtF code s (m + 1)).2 []:=⟨_,rfl⟩
 rw [← hZ] at h1 h2 ⊢
 refine ⟨⟨fun t ht => h1.lev t (yW.1 ht),fun t ht => h1.can t (yW.1 ht),?_⟩,h2⟩
 have:=vD (show (sortC cmpT Z.1).Perm Z.1 from jH _)
 have hsu:=h1.sum
 show qQ (sortC cmpT Z.1) ≤ _
 omega
theorem drawForAnyF_ok {code:List Int} (hc:jT code) {s:Nat × Int} {m:Int} (hs:s.1 ≤ code.length):FAOk (m.toNat + 13) (vX code s m).1∧(vX code s m).2.1 ≤ code.length:=by
 obtain ⟨h1,h2⟩:=yP0 hc (m:=m) hs
 unfold vX
 obtain ⟨f,hf⟩:∃ f,f = yI code s m:=⟨_,rfl⟩
 rw [← hf] at h1 h2 ⊢
 simp only
 have hl:=qH0 h1.lev
 have hsu:=h1.sum
 have h3:=jB (n:=24) h2
 split
 ·obtain ⟨g1,g2⟩:=jP0 hc (m:=4) h3
  have:=g1.len
  refine ⟨⟨?_,by simp;omega⟩,g2⟩
  rw [kE]
  have e:qQ [(drawF code (nxtF code f.2 24).2 4).1] = (drawF code (nxtF code f.2 24).2 4).1.length:=by simp [qQ]
  have h4:(4:Int).toNat = 4:=rfl
  omega
 ·split
  ·obtain ⟨g1,g2⟩:=drawAnyF_ok hc (m:=3) h3
   have:=g1.len
   refine ⟨⟨?_,by simp;omega⟩,g2⟩
   rw [kE]
   have e:qQ [(xO code (nxtF code f.2 24).2 3).1] = (xO code (nxtF code f.2 24).2 3).1.length:=by simp [qQ]
   have h4:(3:Int).toNat = 3:=rfl
   omega
  ·split
   ·refine ⟨⟨?_,by simp;omega⟩,h3⟩
    have e:qQ ([0,1,1] :: f.1) = 3 + qQ f.1:=by simp [qQ]
    show qQ ([0,1,1] :: f.1) ≤ _
    omega
   ·exact ⟨⟨show qQ f.1 ≤ _ by omega,show f.1.length ≤ _ by omega⟩,h3⟩
def jC0 (code:List Int) (s:Nat × Int) (m:Int):List Res × (Nat × Int):=([.own 1 ((vX code s m).1.map eL) false],(vX code s m).2)
theorem AEp.forget {P:Program} {f:FuncId} {ptr:Bool} {k k':Nat} {xs xs0 ys:List (List D)} {post:List (List D)} (h:AEp P f ptr k xs post (fun r x => r = [.own k' ys true]∧x = xs0)):AEp P f ptr k xs post (fun r x => r = [.own k' ys false]∧x = xs0):=by
 refine ⟨h.call,fun A w us og cap ds a1 a2 a3 a4 a5 a6 => (h.fn A w us og cap ds a1 a2 a3 a4 a5 a6).mono ?_⟩
 rintro e w' ⟨v,rs,x',ds',us',G,X,rfl,⟨rfl,rfl⟩,hb,rfl,hG1,hG2,hrel,hlen,hrow,hrd⟩
 obtain ⟨v1,us1,G1,G2,Y1,Y2,rfl,e1,e2,ho,⟨og',cap',F,dd,rfl,hrow',hk',e3,e4,hel⟩,hend⟩:=hrel
 have hend:us1 = []∧G2 = []∧Y2 = []:=hend
 obtain ⟨rfl,rfl,rfl⟩:=hend
 have hel:ownR k' w' dd ys F:=hel
 rw [List.append_nil] at e1 e2
 have e3:G1 = og'.toList ++ F:=e3
 subst e3;subst e4;subst e1;subst e2
 refine ⟨_,_,_,ds',[_],og'.toList,og'.toList,rfl,⟨rfl,rfl⟩,hb,rfl,(List.nodup_append.1 hG1).1,fun b hb' => hG2 b (List.mem_append_left _ hb'),?_,hlen,hrow,hrd⟩
 refine ⟨_,[],og'.toList,[],og'.toList,[],rfl,by simp,by simp,ho,⟨og',cap',[],dd,rfl,hrow',hk',by simp,rfl,?_⟩,rfl,rfl,rfl⟩
 show rdR k' (fun b => (A b ∨ w.heap.size ≤ b)∧b ∉ og'.toList) w' dd ys
 exact hel.rd.mono (fun b hb' _ => ⟨.inr (hG2 b (List.mem_append_right _ hb')),fun h2 => (List.nodup_append.1 hG1).2.2 b h2 b hb' rfl⟩)
theorem vU0 {code:List Int} (hc:jT code) (hl:code.length ≤ 1000000000):xF Tryz.prog 63 code (drw1 (jC0 code)):=by
 refine drw1_of fun s m hs hm1 hm2 => ?_
 have hpin:=vE hc hl
 have hdw:=(p_l03Draw hc hl).ok
 have hda:=(p_l03DrawAny hc hl).ok
 have hdf:=(kG0 hc hl).ok
 have hdt:drwG code (drw1 (vM code)) 3 [srcD code s] [[.int m]] = some ([.own 1 ((yI code s m).1.map eL) true],[srcD code (yI code s m).2]):=qQ0 hs ⟨hm1,hm2⟩
 obtain ⟨h1,h2⟩:=yP0 hc (m:=m) hs
 have hdr:=yR code (yI code s m).2 24 h2
 have hat:=jB (n:=24) h2
 unfold jC0 vX
 obtain ⟨⟨f,s1⟩,hp⟩:∃ p,p = yI code s m:=⟨_,rfl⟩
 rw [← hp] at h1 h2 hdr hat hdt ⊢
 simp only at h1 h2 hdr hat hdt ⊢
 obtain ⟨⟨c,s2⟩,hq⟩:∃ p,p = nxtF code s1 24:=⟨_,rfl⟩
 rw [← hq] at hdr hat ⊢
 simp only [eI] at hdr hat ⊢
 have hfl:=qH0 h1.lev
 have hfs:=h1.sum
 have hfm:(f.map eL).length = f.length:=List.length_map _
 have q1:=jW (n:=f.length + 1) (by omega)
 have q2:=jZ (n:=f.length + 1) (c:=24) (by omega) (by omega)
 by_cases c0:c = 0
 ·refine AEp.forget ?_
  subst c0
  have hd0:drwG code (drw1 (drawG code)) 3 [srcD code s2] [[.int (4:Int)]] = some ([.own 1 ((drawF code s2 4).1.map eI) true],[srcD code (drawF code s2 4).2]):=qQ0 hat (by omega)
  obtain ⟨⟨t,s3⟩,ht⟩:∃ p,p = drawF code s2 4:=⟨_,rfl⟩
  rw [← ht] at hd0 ⊢
  simp only [if_true] at hd0 ⊢
  rw [show (f ++ [t]).map eL = f.map eL ++ [[D.sl 1 (t.map eI)]] by rw [List.map_append];rfl]
  refine AEp.of_runs (qX 32) Tryz.func63 rfl rfl rfl (fun _ => rfl) gz ?_
  have hres:Tryz.f63.results.toList = [.tmp 4]:=rfl
  have hrts:Tryz.f63.resultTypes.toList = [36]:=rfl
  simp only [List.length_cons,List.length_nil,jL,if_true,qU,qT,eL,eI,eLL,eB,Nat.zero_add,Nat.reduceAdd]
  intro M og cap
  refine qJ.of ?_
  refine gw170 (kk 11) (Y6 hdr hdt hd0 hfm q1 q2) ?_
  exact gw158
 ·have e0:(c == 0) = false:=by simp [c0]
  by_cases c1:c = 1
  ·refine AEp.forget ?_
   subst c1
   have hd0:drwG code (drw1 (drawAnyG code)) 3 [srcD code s2] [[.int (3:Int)]] = some ([.own 1 ((xO code s2 3).1.map eI) true],[srcD code (xO code s2 3).2]):=qQ0 hat (by omega)
   obtain ⟨⟨t,s3⟩,ht⟩:∃ p,p = xO code s2 3:=⟨_,rfl⟩
   rw [← ht] at hd0 ⊢
   rw [if_neg c0,if_pos rfl]
   simp only at hd0 ⊢
   rw [show (f ++ [t]).map eL = f.map eL ++ [[D.sl 1 (t.map eI)]] by rw [List.map_append];rfl]
   refine AEp.of_runs (qX 32) Tryz.func63 rfl rfl rfl (fun _ => rfl) gz ?_
   have hres:Tryz.f63.results.toList = [.tmp 4]:=rfl
   have hrts:Tryz.f63.resultTypes.toList = [36]:=rfl
   simp only [List.length_cons,List.length_nil,jL,if_true,qU,qT,eL,eI,eLL,eB,Nat.zero_add,Nat.reduceAdd]
   intro M og cap
   refine qJ.of ?_
   refine gw171 (kk 11) (Y7 hdr hdt hd0 e0 hfm q1 q2) ?_
   exact gw158
  ·have e1:(c == 1) = false:=by simp [c1]
   by_cases c2:c = 2
   ·subst c2
    rw [if_neg c0,if_neg c1,if_pos rfl]
    rw [show ([0,1,1] :: f).map eL = [D.sl 1 [[D.int 0],[D.int 1],[D.int 1]]] :: f.map eL from rfl]
    have q3:=jW (n:=1 + f.length) (by omega)
    have q4:=jZ (n:=1 + f.length) (c:=24) (by omega) (by omega)
    refine AEp.of_runs (qX 32) Tryz.func63 rfl rfl rfl (fun _ => rfl) gz ?_
    have hres:Tryz.f63.results.toList = [.tmp 4]:=rfl
    have hrts:Tryz.f63.resultTypes.toList = [36]:=rfl
    simp only [List.length_cons,List.length_nil,jL,if_true,qU,qT,eL,eI,eLL,eB,Nat.zero_add,Nat.reduceAdd]
    intro M og cap
    refine qJ.of ?_
    refine gw172 (kk 11) (Y5 hdr hdt e0 e1 hfm) ?_
    refine qJ.frz 5 ?_
    ((refine gw88 (kk 11) Y0 ?_);(with_reducible refine qJ.regCut (qX 32) Tab.none 1 (s1:=?_) ?_ ?_);rotate_left 1;(focus ((with_reducible refine QW ?_);simp only [Zg,Zi,seval];with_reducible rfl));simp only [List.toList_toArray,List.drop_succ_cons,List.drop_zero])
    refine qW.frzs [27] ?_
    (refine qW.opsT (qX 32) (T:=Tab.none) (s':=?_) ?_ ?_;rotate_left 1;focus (simp only [Zg,Zi,seval,hfm,q3,q4];with_reducible rfl))
    refine gw7 (kk 11) Y0 ?_
    exact gw158
   ·have e2:(c == 2) = false:=by simp [c2]
    rw [if_neg c0,if_neg c1,if_neg c2]
    refine AEp.forget ?_
    refine AEp.of_runs (qX 32) Tryz.func63 rfl rfl rfl (fun _ => rfl) gz ?_
    have hres:Tryz.f63.results.toList = [.tmp 4]:=rfl
    have hrts:Tryz.f63.resultTypes.toList = [36]:=rfl
    simp only [List.length_cons,List.length_nil,jL,if_true,qU,qT,eL,eI,eLL,eB,Nat.zero_add,Nat.reduceAdd]
    intro M og cap
    refine qJ.of ?_
    refine gw172 (kk 11) (Y6 hdr hdt e0 e1 e2 hfm) ?_
    exact gw158
end
section
def powG:Nat→Int→Nat→Int→Int
 | 0,_,_,out => out
 | f + 1,a,k,out => if k = 0 then out else powG f (mP (a * a)) (k / 2) (if k % 2 = 1 then mP (out * a) else out)
theorem powG_zero (f:Nat) (a out:Int):powG f a 0 out = out:=by cases f <;> simp [powG]
theorem mP_bdW (n:Int):0 ≤ mP n∧mP n < 10007:=by unfold mP;omega
theorem powG_bd:∀ (f:Nat) (a:Int) (k:Nat) (out:Int),0 ≤ out∧out < 10007→0 ≤ powG f a k out∧powG f a k out < 10007
 | 0,_,_,_,h => h
 | f + 1,a,k,out,h => by
  unfold powG
  split
  ·exact h
  ·exact powG_bd f _ _ _ (by split;exact mP_bdW _;exact h)
theorem mul_bdW {a b:Int} (h1:0 ≤ a∧a < 10007) (h2:0 ≤ b∧b < 10007):0 ≤ a * b∧a * b ≤ 100140049:=by
 refine ⟨Int.mul_nonneg h1.1 h2.1,?_⟩
 have:=Int.mul_le_mul (a:=a) (b:=b) (c:=10007) (d:=10007) (by omega) (by omega) h2.1 (by omega)
 omega
theorem a_l01Pow (f:Nat) (a0:Int) (k0:Nat) (ha:0 ≤ a0∧a0 < 10007) (hk:k0 < 2 ^ f) (hk2:k0 ≤ 1000000000):AFn Tryz.prog 275 [eI a0,eI k0] (· = [.val (.int (powG f a0 k0 1))]):=by
 refine AFn.of_runs (qX 20) Tryz.func275 rfl rfl rfl gz ?_
 have hres:Tryz.f275.results.toList = [.tmp 4]:=rfl
 have hrts:Tryz.f275.resultTypes.toList = [2]:=rfl
 simp only [qU,qT,eL,eI,eLL,eB,Nat.zero_add,Nat.reduceAdd]
 intro M
 refine qJ.of ?_
 refine gw7 (kk 6) Y0 ?_
 refine qJ.loop (β:=Nat × Int × Nat × Int) (γ:=Unit) (fun x => ⟨[(0,.c (.val (.int x.2.1))),(1,.c (.val (.int x.2.2.1))),(5,.c (.val (.int x.2.2.2)))],[]⟩) (fun x => (0 ≤ x.2.1∧x.2.1 < 10007)∧x.2.2.1 < 2 ^ x.1∧x.2.2.1 ≤ 1000000000∧(0 ≤ x.2.2.2∧x.2.2.2 < 10007)∧powG x.1 x.2.1 x.2.2.1 x.2.2.2 = powG f a0 k0 1) (fun x => x.2.2.1)
  (fun _ => ⟨[(5,.c (.val (.int (powG f a0 k0 1))))],[]⟩) (fun _ => True) (f,a0,k0,1) ⟨ha,hk,hk2,(by decide:(0:Int) ≤ 1∧(1:Int) < 10007),rfl⟩ ?_ ?_ ?_
 ·exact gw6 Y0
 ·rintro ⟨g,a,k,out⟩ ⟨h1,h2,h3,h4,h5⟩
  simp only at h1 h2 h3 h4 h5 ⊢
  by_cases h:k = 0
  ·subst h
   have i1:(((0:Nat):Int) > 0) = False:=eq_false (by omega)
   rw [powG_zero] at h5
   refine gw7 (kk 6) i1 ?_
   refine qY.out () trivial ?_
   rw [← h5]
   exact gw6 Y0
  ·have i1:((k:Int) > 0) = True:=eq_true (by omega)
   have hq:(k:Int).tdiv 2 = ((k / 2:Nat):Int):=by rw [Int.tdiv_eq_ediv_of_nonneg (by omega)];omega
   have hr:(k:Int).tmod 2 = ((k % 2:Nat):Int):=by rw [Int.tmod_eq_emod_of_nonneg (by omega)];omega
   have hw:w64 ((k / 2:Nat):Int) = ((k / 2:Nat):Int):=qL (by omega)
   obtain ⟨g,rfl⟩:∃ g',g = g' + 1:=by
    cases g with
    | zero => rw [Nat.pow_zero] at h2;omega
    | succ g => exact ⟨g,rfl⟩
   rw [Nat.pow_succ] at h2
   have haa:=mul_bdW h1 h1
   have hma:=jI0 a a (by omega)
   have hst:powG (g + 1) a k out = powG g (mP (a * a)) (k / 2) (if k % 2 = 1 then mP (out * a) else out):=by
    conv => lhs;unfold powG
    rw [if_neg h]
   rw [hst] at h5
   simp only [eI] at hma
   by_cases hodd:k % 2 = 1
   ·have i2:(((k % 2:Nat):Int) == 1) = true:=beq_iff_eq.2 (by omega)
    have hoa:=mul_bdW h4 h1
    have hmo:=jI0 out a (by omega)
    simp only [eI] at hmo
    rw [if_pos hodd] at h5
    ((refine gw88 (kk 6) i1 ?_);with_reducible (apply QS (qX 20) Tab.none;refine QW ?_;simp only [Zg,Zi,seval,i1];rfl);(refine gw88 (kk 6) i1 ?_))
    ((refine gw88 (kk 6) (Y3 hr i2 (show ((2:Int) = 0) = False from eq_false (by decide))) ?_);with_reducible (apply QS (qX 20) Tab.none;refine QW ?_;simp only [Zg,Zi,seval,hr,i2,show ((2:Int) = 0) = False from eq_false (by decide)];rfl);(refine gw88 (kk 6) (Y3 hr i2 (show ((2:Int) = 0) = False from eq_false (by decide))) ?_))
    ((refine gw88 (kk 6) i2 ?_);with_reducible (apply QS (qX 20) (Tab.none.at' 98 hmo);refine QW ?_;simp only [Zg,Zi,seval,i2];rfl);(refine gw88 (kk 6) i2 ?_))
    ((refine gw88 (kk 6) Y0 ?_);with_reducible (apply QS (qX 20) (Tab.none.at' 98 hma);refine QW ?_;simp only [Zg,Zi,seval];rfl);(refine gw88 (kk 6) Y0 ?_))
    refine gw7 (kk 6) (Y3 hq hw (show ((2:Int) = 0) = False from eq_false (by decide))) ?_
    refine qY.on (g,mP (a * a),k / 2,mP (out * a)) ⟨⟨mP_bdW _,by show k / 2 < 2 ^ g;omega,by show k / 2 ≤ _;omega,mP_bdW _,h5⟩,by show k / 2 < k;omega⟩ ?_
    exact gw6 Y0
   ·have i2:(((k % 2:Nat):Int) == 1) = false:=beq_eq_false_iff_ne.2 (by omega)
    rw [if_neg hodd] at h5
    refine gw173 (kk 6) (Y6 i1 hr i2 hq hw (show ((2:Int) = 0) = False from eq_false (by decide))) ?_
    refine qY.on (g,mP (a * a),k / 2,out) ⟨⟨mP_bdW _,by show k / 2 < 2 ^ g;omega,by show k / 2 ≤ _;omega,h4,h5⟩,by show k / 2 < k;omega⟩ ?_
    exact gw6 Y0
 ·rintro _ _
  refine gw7 (kk 6) Y0 ?_
  exact gw8
theorem a_l01Inv (a:Int) (ha:0 ≤ a∧a < 10007):AFn Tryz.prog 265 [eI a] (· = [.val (.int (powG 14 a 10005 1))]):=by
 have h:=a_l01Pow 14 a 10005 ha (by decide) (by decide)
 simp only [eI,show ((10005:Nat):Int) = 10005 from rfl] at h
 refine AFn.of_runs (qX 5) Tryz.func265 rfl rfl rfl gz ?_
 have hres:Tryz.f265.results.toList = [.tmp 2]:=rfl
 have hrts:Tryz.f265.resultTypes.toList = [2]:=rfl
 simp only [qU,qT,eL,eI,eLL,eB,Nat.zero_add,Nat.reduceAdd]
 intro M
 refine qJ.of ?_
 refine gw174 (kk 3) ?_
 exact gw8
end
end Go.Proofs.YtedgfkpfhonlpaaGreat

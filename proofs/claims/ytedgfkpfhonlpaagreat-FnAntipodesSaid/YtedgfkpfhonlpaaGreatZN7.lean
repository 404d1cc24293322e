/- Lemmas (7). -/
import Derived.Lib.SliceRun
import Derived.Test.YtedgfkpfhonlpaaGreatZN4
import Derived.Test.YtedgfkpfhonlpaaGreatZN5
import Derived.Test.YtedgfkpfhonlpaaGreatZN6
set_option maxHeartbeats 16000000
set_option maxRecDepth 100000
set_option linter.unusedSimpArgs false
set_option linter.unusedVariables false
namespace Go.Proofs.YtedgfkpfhonlpaaGreat
open Go.RowKit
section
def forest (list:List (List Int)):List (List Int):=sortC cmpT list
theorem c_slicesClone (v:Value) (xs:List Int) (w:World) (h:Rd (RS RI) w [v] xs) (hsz:xs.length ≤ 1000000000) :
  Calls Tryz.prog 201 #[v] w (RetO (RS RI) w xs):=by
 obtain ⟨oa,c1,I1⟩:=h.ints
 obtain rfl:=I1.val
 have m1:=I1.le;have m2:=I1.capLe
 unfold maxLen at m2
 have q22:∀ (w:World) (a:Option Addr) (n c n' c':Nat),(binOp .eql 24 (.slice a n c) (.slice none n' c')).run Tryz.prog w = .ok (.bool a.isNone) w:=fun w a n c n' c' => Lib.run_eql_slice_nil w _ _ a n c n' c' tI64.ht
 cases oa with
 | none =>
  have hc:=I1.noneCap rfl
  have hx:xs = []:=List.eq_nil_of_length_eq_zero (by omega)
  subst hx;subst hc
  clear h I1
  go_enter Tryz.func201,Tryz.ntmps201
  go_wp2_with fail
  go_ret
  exact ⟨_,rfl,Own.nil _ _,Below.refl _ _⟩
 | some ad =>
 have I2:Ints (w.alloc (.cells #[] 2)) (.slice (some ad) xs.length c1) xs (some ad) c1:=by
  refine ⟨rfl,m1,I1.capLe,I1.noneCap,I1.bd,?_⟩
  rcases I1.row with h|⟨b,off,e,hb,hc⟩
  ·exact .inl h
  ·refine .inr ⟨b,off,e,by simp;omega,fun j hj => ?_⟩
   rw [World.cell?_alloc_lt _ _ _ hb];exact hc j hj
 have hrow:=Row.lit w #[] 2 1 0 (by decide) (by simp)
 have HI:=Lib.hid I2
 have HR:=Lib.hid hrow
 clear I2 hrow
 go_enter Tryz.func201,Tryz.ntmps201
 go_wp2_with (at_builtin;refine yP (o:=⟨some 7,_,_,_,_,_⟩) ?_)
 refine jA.go ?_
 refine xD rfl _ _ 24 rfl 2 (.int .i64 0) 1 8 tI64 (.slice (some ⟨w.heap.size,0,none⟩) 0 0) 0 [] (some w.heap.size) rfl (by simpa using HR.out) (some ad) xs.length c1 (xs.map (Value.int .i64)) rfl (by simp) (fun h => by cases h) (Row.cells_ints HI.out) (by intro u hu;obtain ⟨x,_,rfl⟩:=List.mem_map.1 hu;rfl) (by omega) (by unfold maxLen;omega) ?_
 intro v' w' og' happ
 rw [Nat.zero_add,List.nil_append] at happ
 have hlow:=happ.low (B:=w.heap.size) (by simp) (fun g hg => by cases hg;exact Nat.le_refl _)
 have hbel:Below w.heap.size w w':=((Below.refl w.heap.size w).alloc (Nat.le_refl _) (.cells #[] 2)).trans hlow.2
 have hown:Own (RS RI) w.heap.size w'.heap.size w' [v'] xs:=Row.OwnI (by simpa using happ.1) I1.bd hlow.1
 have HO:=Lib.hid hown
 obtain ⟨oa',cap',rfl,_⟩:=hown.val
 clear hown happ hlow
 go_wp2_with fail
 go_ret
 exact ⟨_,rfl,HO.out,hbel⟩
theorem take_snoc (xs:List (List Int)) (k:Nat) (h:k < xs.length):xs.take (k + 1) = xs.take k ++ [xs[k]]:=List.take_succ_eq_append_getElem h
theorem kC0 (v:Value) (bs:List (List Int)) (w:World) (h:Rd (RS (RS RI)) w [v] bs) (hsz:bs.length ≤ 1000000000) (hsl:∀ b ∈ bs,b.length ≤ 1000000000) :
  Calls Tryz.prog 152 #[v] w (RetO (RS (RS RI)) w bs):=by
 obtain ⟨oa,cap,L⟩:=h.lists
 obtain rfl:=L.val
 have m1:=L.le;have m2:=L.capLe
 have HL:=Lib.hid L
 have HS:=Lib.hid hsl
 clear L h hsl
 go_enter Tryz.func152,Tryz.ntmps152
 go_wp2_with fail
 go_loopw [3,9] (fun o i wr => ∃ (k:Nat) (r:List (List Int)),k ≤ bs.length∧i = .int .i64 k∧Hid (r = bs.take k)∧r.length ≤ 1000000000∧(∃ oa cap,o = .slice oa r.length cap)∧Hid (Own (RS (RS RI)) w.heap.size wr.heap.size wr [o] r)∧Below w.heap.size w wr) (fun _ i _ => bs.length - (intOf i).toNat)
 case atStart => exact ⟨0,[],Nat.zero_le _,rfl,Lib.hid rfl,by simp,⟨_,_,rfl⟩,Lib.hid ((Own.empty (R:=RS RI) (w:=w) 24 w.heap.size (Nat.le_refl _)).top _ (by simp)),(Below.refl _ _).alloc (Nat.le_refl _) _⟩
 case round =>
  obtain ⟨k,r,hk,rfl,hr,hrl,⟨o1,cap1,rfl⟩,hown,hbel⟩:=hrel
  have hsz1:=hbel.size
  by_cases hlt:k < bs.length
  ·obtain ⟨b,off,rfl,hb,hc⟩:=HL.out.get hlt
   obtain ⟨oi,ci,g1,hrd,q1,q2⟩:=hc k hlt
   have g2:wr.cell? ⟨b,off + k,none⟩ = some (.slice oi bs[k].length ci):=(hbel.cell (p:=⟨b,off + k,none⟩) hb).trans g1
   obtain ⟨x,hx⟩:∃ x,x = bs[k]:=⟨_,rfl⟩
   have hxl:x.length ≤ 1000000000:=by rw [hx];exact HS.out _ (List.getElem_mem hlt)
   have hnx:=take_snoc bs k hlt
   have hrlen:r.length = k:=by rw [hr.out];simp;omega
   have hr2:r.length + 1 ≤ 1000000000:=by omega
   rw [← hx] at g2 hrd q1 hnx
   rw [← hr.out] at hnx
   have hcl:=c_slicesClone _ x wr (hrd.below hbel (Nat.le_refl _)) hxl
   have HN:=Lib.hid hnx
   clear hc g1 hx hrd hnx hrlen
   go_wp2_with (first|(go_at_call 201;refine hcl.mono ?_;rintro e w2 ⟨u,rfl,o2,b2⟩;obtain ⟨ou,cu,rfl,lu1,lu2⟩:=o2.val)|(at_builtin;refine yP (o:=⟨some 17,_,_,_,_,_⟩) ?_))
   refine jA.go ?_
   have hb2:=b2.size
   refine jT0 (w:=w2) (R:=RS RI) rfl _ _ 36 rfl 24 (.slice none 0 0) 1 24 tI64S rfl (.slice o1 r.length cap1) r x [.slice ou x.length cu] w.heap.size wr.heap.size w2.heap.size rfl (hown.out.below b2 (Nat.le_refl _)) o2 hb2 hsz1 24 rfl rfl (by omega) (by omega) ?_
   intro oa1 cap1' w1 hown1 c1a c1b hbel1
   have hb3:=(hbel.trans (b2.mono hsz1)).trans hbel1
   obtain ⟨r',hr'⟩:∃ r',r' = r ++ [x]:=⟨_,rfl⟩
   have HR:Hid (r' = bs.take (k + 1)):=Lib.hid (by rw [hr',HN.out])
   have e1:r.length + 1 = r'.length:=by rw [hr'];simp
   rw [← hr',e1] at hown1
   have HO:Hid (Own (RS (RS RI)) w.heap.size w1.heap.size w1 [.slice oa1 r'.length cap1'] r'):=hown1
   rw [e1] at hr2
   rw [e1]
   clear hown1 hbel1 hown e1 hr' hcl o2
   go_wp2_with fail
   go_roundw
   case rel => exact ⟨k + 1,r',by omega,by go_num,HR,hr2,⟨_,_,rfl⟩,HO,hb3⟩
   case measure => simp [intOf];omega
  ·have hfin:Hid (r = bs):=Lib.hid (by rw [hr.out,List.take_of_length_le (by omega)])
   go_wp2_with fail
   go_ret
   exact ⟨_,rfl,by rw [← hfin.out];exact hown.out,hbel⟩
theorem c_impl_forestOf (v:Value) (bs:List (List Int)) (w:World) (h:Rd (RS (RS RI)) w [v] bs) (hsz:bs.length ≤ 19) (hsl:∀ b ∈ bs,b.length ≤ 1000000000) :
  Calls Tryz.prog 102 #[v] w (RetO (RS (RS RI)) w (forest bs)):=by
 have hc:=kC0 v bs w h (by omega) hsl
 have EG:=Lib.hid (enters (P:=Tryz.prog) (f:=119) Tryz.func119 (by kernel_rfl) rfl)
 have HA:Hid (vT Tryz.prog 119 cmpT (fun _ => True)):=Lib.hid (fun w h1 h2 x y r1 r2 _ _ => yO0 h1 h2 x y w r1 r2)
 clear h hsl
 go_enter Tryz.func102,Tryz.ntmps102
 go_wp2_with (go_at_call 152;refine hc.mono ?_;rintro e w1 ⟨u,rfl,o1,b1⟩;obtain ⟨ou,cu,rfl,lu1,lu2⟩:=o1.val)
 have hs:=c_SortStable 119 cmpT yF (fun _ => True) EG.out HA.out _ bs w.heap.size w1.heap.size w1 o1 (fun _ _ => trivial) (by omega)
 have hb1:=b1.size
 clear o1 hc
 go_wp2_with (go_at_call 163;refine hs.mono ?_;rintro e w3 ⟨rfl,o3,ch3⟩)
 go_ret
 have hb3:Below w.heap.size w w3:=b1.trans (ch3.below (Nat.le_refl _) hb1)
 exact ⟨_,rfl,o3.mono (Nat.le_refl _) ch3.size,hb3⟩
def jF (bs:List (List Int)):Int:=bs.foldl (fun a b => wrap64 (a + b.length)) 0
theorem xR0 (bs:List (List Int)) (k:Nat) (h:k < bs.length):jF (bs.take (k + 1)) = wrap64 (jF (bs.take k) + bs[k].length):=by
 unfold jF
 rw [List.take_succ_eq_append_getElem h,List.foldl_append];rfl
theorem kC (bs:List (List Int)) (h:qQ bs ≤ 1000000000000000000):jF bs = qQ bs:=by
 have:∀ (bs:List (List Int)) (n:Nat),n + qQ bs ≤ 1000000000000000000→bs.foldl (fun a b => wrap64 (a + (b.length:Int))) (n:Int) = (n + qQ bs:Nat):=by
  intro bs
  induction bs with
  | nil => intro n _;simp [qQ]
  | cons b bs ih =>
   intro n hn
   simp only [qQ,List.map_cons,List.sum_cons] at hn
   rw [List.foldl_cons]
   have e:wrap64 ((n:Int) + b.length) = ((n + b.length:Nat):Int):=by unfold wrap64;omega
   rw [e,ih (n + b.length) (by unfold qQ;omega)]
   simp only [qQ,List.map_cons,List.sum_cons]
   omega
 unfold jF;simpa using this bs 0 (by omega)
theorem xF0 (v:Value) (bs:List (List Int)) (w:World) (h:Rd (RS (RS RI)) w [v] bs) :
  Calls Tryz.prog 88 #[v] w (RetS w (.int .i64 (jF bs))):=by
 obtain ⟨oa,cap,L⟩:=h.lists
 obtain rfl:=L.val
 have m1:=L.le;have m2:=L.capLe
 have HL:=Lib.hid L
 clear L h
 go_enter Tryz.func88,Tryz.ntmps88
 go_wp2_with fail
 go_loop [3,8] (fun s i => ∃ (k:Nat),k ≤ bs.length∧i = .int .i64 k∧s = .int .i64 (jF (bs.take k))) (fun _ i => bs.length - (intOf i).toNat)
 case atStart => exact ⟨0,Nat.zero_le _,rfl,rfl⟩
 case round =>
  obtain ⟨k,hk,rfl,rfl⟩:=hrel
  by_cases hlt:k < bs.length
  ·obtain ⟨b,off,rfl,hb,hc⟩:=HL.out.get hlt
   obtain ⟨oi,ci,g1,hrd,q1,q2⟩:=hc k hlt
   have hnx:=xR0 bs k hlt
   obtain ⟨x,hx⟩:∃ x,x = bs[k].length:=⟨_,rfl⟩
   obtain ⟨s,hs⟩:∃ s,s = jF (bs.take k):=⟨_,rfl⟩
   rw [← hx] at g1 q1 hnx
   rw [← hs] at hnx
   rw [← hs]
   have hw:IntKind.i64.wrap (s + (x:Int)) = wrap64 (s + x):=IntWalk.i64_left _
   obtain ⟨g,hg⟩:∃ g,g = wrap64 (s + x):=⟨_,rfl⟩
   rw [← hg] at hw hnx
   have HN:=Lib.hid hnx
   clear hc hrd hx hs hg hnx
   go_wp2_with fail
   go_round
   case rel => exact ⟨k + 1,by omega,by go_num,by rw [HN.out]⟩
   case measure => simp [intOf];omega
  ·have hfin:bs.take k = bs:=List.take_of_length_le (by omega)
   have HF:=Lib.hid hfin
   clear hfin
   go_wp2_with fail
   go_ret
   exact ⟨by simp [HF.out],rfl⟩
theorem c_spec_l03Nodes (v:Value) (bs:List (List Int)) (w:World) (h:Rd (RS (RS RI)) w [v] bs) :
  Calls Tryz.prog 130 #[v] w (RetS w (.int .i64 (jF bs))):=by
 obtain ⟨oa,cap,L⟩:=h.lists
 obtain rfl:=L.val
 have m1:=L.le;have m2:=L.capLe
 have HL:=Lib.hid L
 clear L h
 go_enter Tryz.func130,Tryz.ntmps130
 go_wp2_with fail
 go_loop [3,4] (fun s i => ∃ (k:Nat),k ≤ bs.length∧i = .int .i64 k∧s = .int .i64 (jF (bs.take k))) (fun _ i => bs.length - (intOf i).toNat)
 case atStart => exact ⟨0,Nat.zero_le _,rfl,rfl⟩
 case round =>
  obtain ⟨k,hk,rfl,rfl⟩:=hrel
  by_cases hlt:k < bs.length
  ·obtain ⟨b,off,rfl,hb,hc⟩:=HL.out.get hlt
   obtain ⟨oi,ci,g1,hrd,q1,q2⟩:=hc k hlt
   have hnx:=xR0 bs k hlt
   obtain ⟨x,hx⟩:∃ x,x = bs[k].length:=⟨_,rfl⟩
   obtain ⟨s,hs⟩:∃ s,s = jF (bs.take k):=⟨_,rfl⟩
   rw [← hx] at g1 q1 hnx
   rw [← hs] at hnx
   rw [← hs]
   have hw:IntKind.i64.wrap (s + (x:Int)) = wrap64 (s + x):=IntWalk.i64_left _
   obtain ⟨g,hg⟩:∃ g,g = wrap64 (s + x):=⟨_,rfl⟩
   rw [← hg] at hw hnx
   have HN:=Lib.hid hnx
   clear hc hrd hx hs hg hnx
   go_wp2_with fail
   go_round
   case rel => exact ⟨k + 1,by omega,by go_num,by rw [HN.out]⟩
   case measure => simp [intOf];omega
  ·have hfin:bs.take k = bs:=List.take_of_length_le (by omega)
   have HF:=Lib.hid hfin
   clear hfin
   go_wp2_with fail
   go_ret
   exact ⟨by simp [HF.out],rfl⟩
end
section
def OwnF {α:Type} (R:Rep α) (F:List Nat) (w:World) (cs:List Value) (x:α):Prop:=R.own w cs x F∧F.Nodup
theorem OwnF.frame {α:Type} {R:Rep α} {F:List Nat} {w w':World} {cs:List Value} {x:α} (h:OwnF R F w cs x) (hf:∀ b,b ∈ F→w'.heap[b]? = w.heap[b]?):OwnF R F w' cs x:=⟨R.own_frame h.1 hf,h.2⟩
theorem OwnF.rd {α:Type} {R:Rep α} {F:List Nat} {w:World} {cs:List Value} {x:α} (h:OwnF R F w cs x):Rd R w cs x:=R.rd_mono (R.own_rd h.1) (fun _ _ h => h)
structure ChgF (F:List Nat) (w w':World):Prop where
 os:w'.os = w.os
 tape:w'.tape = w.tape
 output:w'.output = w.output
 size:w.heap.size ≤ w'.heap.size
 block:∀ k,k < w.heap.size→k ∉ F→w'.heap[k]? = w.heap[k]?
theorem ChgF.mono {F G:List Nat} {w w':World} (h:ChgF F w w') (hs:∀ b,b ∈ F→b ∈ G):ChgF G w w':=⟨h.os,h.tape,h.output,h.size,fun k hk hn => h.block k hk (fun e => hn (hs k e))⟩
theorem ChgF.trans {F:List Nat} {a b c:World} (h:ChgF F a b) (k:ChgF F b c):ChgF F a c :=
 ⟨k.os.trans h.os,k.tape.trans h.tape,k.output.trans h.output,Nat.le_trans h.size k.size,fun i hi hn => (k.block i (Nat.lt_of_lt_of_le hi h.size) hn).trans (h.block i hi hn)⟩
section
variable {α:Type} {R:Rep α} {w:World}
end
end
section
theorem qK:Tryz.prog.follows .mixedOrders = true:=by kernel_rfl
section
variable {P:Program} {f:FuncId}
theorem rdLL {A:Nat→Prop} {w:World} {xs:List (List Int)} {v:Value} (h:vL A w (eLL xs) v):(RS (RS RI)).rd A w [v] xs:=((encS (encS encI)).rdV (x:=xs) rfl).2 h
theorem arg_int {A:Nat→Prop} {w:World} {n:Int} {v:Value} (h:vL A w (eI n) v):v = .int .i64 n:=(jJ.1 h).1
theorem afn_L_s {t:List Int} {d:D} {v:Value} (eg:∀ args w,(callFunc f args).run P w = .ok (.enter f args) w) (hd:∀ A w,rdV A w v d) (h:∀ u w,Rd (RS RI) w [u] t→Calls P f #[u] w (RetS w v)):AFn P f [eL t] (· = [.val d]) :=
 AFn.of_s eg hd (fun w A vs ⟨v1,_,e1,h1,e2⟩ => by subst e2;subst e1;exact h v1 w (Rd.of (rd1 h1)))
theorem afn_L_q {t:List Int} {d:D} {v:Value} (eg:∀ args w,(callFunc f args).run P w = .ok (.enter f args) w) (hd:∀ A w,rdV A w v d) (h:∀ u w,Rd (RS RI) w [u] t→Calls P f #[u] w (RetQ w v)):AFn P f [eL t] (· = [.val d]) :=
 AFn.of_q eg hd (fun w A vs ⟨v1,_,e1,h1,e2⟩ => by subst e2;subst e1;exact h v1 w (Rd.of (rd1 h1)))
theorem afn_LL_q {s t:List Int} {d:D} {v:Value} (eg:∀ args w,(callFunc f args).run P w = .ok (.enter f args) w) (hd:∀ A w,rdV A w v d) (h:∀ u1 u2 w,Rd (RS RI) w [u1] s→Rd (RS RI) w [u2] t→Calls P f #[u1,u2] w (RetQ w v)):AFn P f [eL s,eL t] (· = [.val d]) :=
 AFn.of_q eg hd (fun w A vs ⟨v1,_,e1,h1,v2,_,e2,h2,e3⟩ => by subst e3;subst e2;subst e1;exact h v1 v2 w (Rd.of (rd1 h1)) (Rd.of (rd1 h2)))
theorem afn_L_o {t r:List Int} (eg:∀ args w,(callFunc f args).run P w = .ok (.enter f args) w) (h:∀ u w,Rd (RS RI) w [u] t→Calls P f #[u] w (RetO (RS RI) w r)):AFn P f [eL t] (· = [.own 1 (r.map eI) true]) :=
 AFn.of_o encI eg (fun w A vs ⟨v1,_,e1,h1,e2⟩ => by subst e2;subst e1;exact h v1 w (Rd.of (rd1 h1)))
theorem afn_L_oo {t:List Int} {r:List (List Int)} (eg:∀ args w,(callFunc f args).run P w = .ok (.enter f args) w) (h:∀ u w,Rd (RS RI) w [u] t→Calls P f #[u] w (RetO (RS (RS RI)) w r)):AFn P f [eL t] (· = [.own 1 (r.map eL) true]) :=
 AFn.of_o (encS encI) eg (fun w A vs ⟨v1,_,e1,h1,e2⟩ => by subst e2;subst e1;exact h v1 w (Rd.of (rd1 h1)))
theorem afn_LLL_oo {t r:List (List Int)} (eg:∀ args w,(callFunc f args).run P w = .ok (.enter f args) w) (h:∀ u w,Rd (RS (RS RI)) w [u] t→Calls P f #[u] w (RetO (RS (RS RI)) w r)):AFn P f [eLL t] (· = [.own 1 (r.map eL) true]) :=
 AFn.of_o (encS encI) eg (fun w A vs ⟨v1,_,e1,h1,e2⟩ => by subst e2;subst e1;exact h v1 w (Rd.of (rdLL h1)))
theorem afn_LLL_o {t:List (List Int)} {r:List Int} (eg:∀ args w,(callFunc f args).run P w = .ok (.enter f args) w) (h:∀ u w,Rd (RS (RS RI)) w [u] t→Calls P f #[u] w (RetO (RS RI) w r)):AFn P f [eLL t] (· = [.own 1 (r.map eI) true]) :=
 AFn.of_o encI eg (fun w A vs ⟨v1,_,e1,h1,e2⟩ => by subst e2;subst e1;exact h v1 w (Rd.of (rdLL h1)))
theorem afn_LLL_s {t:List (List Int)} {d:D} {v:Value} (eg:∀ args w,(callFunc f args).run P w = .ok (.enter f args) w) (hd:∀ A w,rdV A w v d) (h:∀ u w,Rd (RS (RS RI)) w [u] t→Calls P f #[u] w (RetS w v)):AFn P f [eLL t] (· = [.val d]) :=
 AFn.of_s eg hd (fun w A vs ⟨v1,_,e1,h1,e2⟩ => by subst e2;subst e1;exact h v1 w (Rd.of (rdLL h1)))
theorem afn_III_s {x y z:Int} {d:D} {v:Value} (eg:∀ args w,(callFunc f args).run P w = .ok (.enter f args) w) (hd:∀ A w,rdV A w v d) (h:∀ w,Calls P f #[.int .i64 x,.int .i64 y,.int .i64 z] w (RetS w v)):AFn P f [eI x,eI y,eI z] (· = [.val d]) :=
 AFn.of_s eg hd (fun w A vs ⟨v1,_,e1,h1,v2,_,e2,h2,v3,_,e3,h3,e4⟩ => by subst e4;subst e3;subst e2;subst e1;rw [arg_int h1,arg_int h2,arg_int h3];exact h w)
theorem afn_I_s {x:Int} {d:D} {v:Value} (eg:∀ args w,(callFunc f args).run P w = .ok (.enter f args) w) (hd:∀ A w,rdV A w v d) (h:∀ w,Calls P f #[.int .i64 x] w (RetS w v)):AFn P f [eI x] (· = [.val d]) :=
 AFn.of_s eg hd (fun w A vs ⟨v1,_,e1,h1,e2⟩ => by subst e2;subst e1;rw [arg_int h1];exact h w)
end
def Rg {α:Type} (R:Rep α) (lo hi:Nat) (w:World) (cs:List Value) (x:α):Prop:=R.rd (fun b => lo ≤ b∧b < hi) w cs x
theorem Rg.rd {α:Type} {R:Rep α} {lo hi:Nat} {w:World} {cs:List Value} {x:α} (h:Rg R lo hi w cs x):Rd R w cs x:=R.rd_mono h (fun _ _ h => h)
theorem Rg.frame {α:Type} {R:Rep α} {lo hi:Nat} {w w':World} {cs:List Value} {x:α} (h:Rg R lo hi w cs x) (hf:∀ b,lo ≤ b→b < hi→b < w.heap.size→w'.heap[b]? = w.heap[b]?):Rg R lo hi w' cs x:=R.rd_frame h (fun b hb hl => hf b hb.1 hb.2 hl)
section
variable {P:Program} {f:FuncId} {α:Type} {R:Rep α} {e:α→List D}
theorem AFn.one {ds:List (List D)} {v:Value} {d:D} (hd:∀ A w u,rdV A w u d→u = v) (h:AFn P f ds (· = [.val d])) {w:World} {vs:List Value} (hv:jX (· < w.heap.size) w ds vs) :
  Calls P f vs.toArray w (RetV w v):=by
 refine (h.fn _ w vs (fun _ h => h) hv).mono ?_
 rintro e' w' ⟨v',rs,rfl,rfl,hb,us,G,X,rfl,hG,hG2,u,us',G1,G2,Y1,Y2,rfl,rfl,rfl,h1,⟨h4,_,_⟩,rfl,rfl,rfl⟩
 rw [hd _ _ _ h4]
 exact ⟨rfl,hb⟩
theorem args1 {w:World} {a:List D} {u:Value} (h:vL (· < w.heap.size) w a u):jX (· < w.heap.size) w [a] [u]:=⟨u,[],rfl,h,rfl⟩
end
end
section
theorem a_l03Before (xs ys:List Int):AFn Tryz.prog 129 [eL xs,eL ys] (· = [.val (.bool (decide (cmpT xs ys < 0)))]) :=
 AFn.of_q (v:=.bool _) (enters_of Tryz.func129 rfl rfl) (fun _ _ => jN.2 rfl) (fun w A vs ⟨v1,_,e1,h1,v2,_,e2,h2,e3⟩ => by subst e3;subst e2;subst e1;exact kR0 v1 v2 xs ys w (Rd.of (rd1 h1)) (Rd.of (rd1 h2)))
theorem a_l01Same (xs ys:List Int):AFn Tryz.prog 189 [eL xs,eL ys] (· = [.val (.bool (decide (xs = ys)))]) :=
 AFn.of_q (v:=.bool _) (enters_of Tryz.func189 rfl rfl) (fun _ _ => jN.2 rfl) (fun w A vs ⟨v1,_,e1,h1,v2,_,e2,h2,e3⟩ => by subst e3;subst e2;subst e1;exact c_spec_l01Same v1 v2 xs ys w (Rd.of (rd1 h1)) (Rd.of (rd1 h2)))
theorem a_l01Own (xs:List Int) (hsz:xs.length ≤ 1000000000):AFn Tryz.prog 133 [eL xs] (· = [.own 1 (xs.map eI) true]) :=
 AFn.of_o encI (enters_of Tryz.func133 rfl rfl) (fun w A vs ⟨v1,_,e1,h1,e2⟩ => by subst e2;subst e1;exact kD0 v1 xs w (Rd.of (rd1 h1)) hsz)
theorem cmpT_in64 {xs ys:List Int} (h1:xs.length ≤ maxLen) (h2:ys.length ≤ maxLen):qH (cmpT xs ys):=by
 unfold maxLen at h1 h2
 unfold cmpT qH
 have:=cmpL_range ys xs
 split <;> omega
theorem a_compareTrees (xs ys:List Int):AFn Tryz.prog 119 [eL xs,eL ys] (· = [.val (.int (cmpT xs ys))]):=by
 refine ⟨enters_of Tryz.func119 rfl rfl,fun A w vs hA ⟨v1,_,e1,h1,v2,_,e2,h2,e3⟩ => ?_⟩
 subst e3;subst e2;subst e1
 obtain ⟨oa,c1,k1,m1,m2⟩:=(Rd.of (rd1 h1)).val
 obtain ⟨ob,c2,k2,m3,m4⟩:=(Rd.of (rd1 h2)).val
 refine (yO0 v1 v2 xs ys w (Rd.of (rd1 h1)) (Rd.of (rd1 h2))).mono ?_
 rintro e w' ⟨rfl,rfl⟩
 exact ⟨_,_,rfl,rfl,Below.refl _ _,[_],[],[],rfl,List.nodup_nil,by simp,_,[],[],[],[],[],rfl,rfl,rfl,rfl,⟨jJ.2 ⟨rfl,cmpT_in64 (by omega) (by omega)⟩,rfl,rfl⟩,rfl,rfl,rfl⟩
theorem a_impl_IsLevels (t:List Int):AFn Tryz.prog 57 [eL t] (· = [.val (.bool (lev8 t))]):=afn_L_s (v:=.bool _) (enters_of Tryz.func57 rfl rfl) (fun _ _ => jN.2 rfl) (fun u w h => c_impl_IsLevels u t w h)
theorem a_spec_l03Is (t:List Int) (hsz:t.length ≤ 1048576):AFn Tryz.prog 188 [eL t] (· = [.val (.bool (lev8 t))]):=afn_L_q (v:=.bool _) (enters_of Tryz.func188 rfl rfl) (fun _ _ => jN.2 rfl) (fun u w h => c_spec_l03Is u t w h (by omega))
theorem a_slicesEqual (xs ys:List Int):AFn Tryz.prog 180 [eL xs,eL ys] (· = [.val (.bool (decide (xs = ys)))]):=afn_LL_q (v:=.bool _) (enters_of Tryz.func180 rfl rfl) (fun _ _ => jN.2 rfl) (fun u1 u2 w h1 h2 => c_slicesEqual u1 u2 xs ys w h1 h2)
theorem a_spec_l01In (x y z:Int):AFn Tryz.prog 135 [eI x,eI y,eI z] (· = [.val (.bool (inR x y z))]):=afn_III_s (v:=.bool _) (enters_of Tryz.func135 rfl rfl) (fun _ _ => jN.2 rfl) (fun w => xM0 x y z w)
theorem a_l03Canon (t:List Int) (h:qZ t) (hl:t.length ≤ 8):AFn Tryz.prog 186 [eL t] (· = [.own 1 ((canon t).map eI) true]) :=
 afn_L_o (enters_of Tryz.func186 rfl rfl) (fun u w h' => kL0 8 u t w h' h hl (by omega))
theorem a_canonical (t:List Int) (h:qZ t) (hl:t.length ≤ 8):AFn Tryz.prog 91 [eL t] (· = [.own 1 ((canon t).map eI) true]) :=
 afn_L_o (enters_of Tryz.func91 rfl rfl) (fun u w h' => kV0 8 u t w h' h hl (by omega))
theorem nodesB_in64 (f:List (List Int)):qH (jF f):=by
 have:∀ (bs:List (List Int)) (a:Int),qH a→qH (bs.foldl (fun a b => wrap64 (a + (b.length:Int))) a):=by
  intro bs
  induction bs with
  | nil => intro a h;exact h
  | cons b bs ih => intro a _;exact ih _ (by show qH (wrap64 (a + (b.length:Int)));unfold qH wrap64;omega)
 exact this f 0 (by unfold qH;omega)
theorem a_nodesIn (f:List (List Int)):AFn Tryz.prog 88 [eLL f] (· = [.val (.int (jF f))]) :=
 afn_LLL_s (enters_of Tryz.func88 rfl rfl) (fun _ _ => jJ.2 ⟨rfl,nodesB_in64 f⟩) (fun u w h => xF0 u f w h)
theorem a_l03Nodes (f:List (List Int)):AFn Tryz.prog 130 [eLL f] (· = [.val (.int (jF f))]) :=
 afn_LLL_s (enters_of Tryz.func130 rfl rfl) (fun _ _ => jJ.2 ⟨rfl,nodesB_in64 f⟩) (fun u w h => c_spec_l03Nodes u f w h)
end
end Go.Proofs.YtedgfkpfhonlpaaGreat

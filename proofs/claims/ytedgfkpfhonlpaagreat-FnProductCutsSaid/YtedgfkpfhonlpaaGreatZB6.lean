/- Lemmas (6). -/
import Derived.Lib.SliceRun
import Derived.Test.YtedgfkpfhonlpaaGreatZB4
import Derived.Test.YtedgfkpfhonlpaaGreatZB5
set_option maxHeartbeats 16000000
set_option maxRecDepth 100000
set_option linter.unusedSimpArgs false
set_option linter.unusedVariables false
namespace Go.Proofs.YtedgfkpfhonlpaaGreat
open Go.RowKit
section
def forest (list:List (List Int)):List (List Int):=sortC cmpT list
theorem kU0 (v:Value) (xs:List Int) (w:World) (h:Rd (RS RI) w [v] xs) (hsz:xs.length ≤ 1000000000) :
  Calls Tryz.prog 201 #[v] w (RetO (RS RI) w xs):=by
 obtain ⟨oa,c1,I1⟩:=h.ints
 obtain rfl:=I1.val
 have m1:=I1.le;have m2:=I1.capLe
 unfold maxLen at m2
 have q22:∀ (w:World) (a:Option Addr) (n c n' c':Nat),(binOp .eql 24 (.slice a n c) (.slice none n' c')).run Tryz.prog w = .ok (.bool a.isNone) w:=fun w a n c n' c' => Lib.run_eql_slice_nil w _ _ a n c n' c' tI64.ht
 cases oa with
 | none =>
  have hc:=I1.noneCap rfl
  have hx:xs = []:=List.eq_nil_of_length_eq_zero (by omega)
  subst hx;subst hc
  clear h I1
  go_enter Tryz.func201,Tryz.ntmps201
  go_wp2_with fail
  go_ret
  exact ⟨_,rfl,Own.nil _ _,Below.refl _ _⟩
 | some ad =>
 have I2:Ints (w.alloc (.cells #[] 2)) (.slice (some ad) xs.length c1) xs (some ad) c1:=by
  refine ⟨rfl,m1,I1.capLe,I1.noneCap,I1.bd,?_⟩
  rcases I1.row with h|⟨b,off,e,hb,hc⟩
  ·exact .inl h
  ·refine .inr ⟨b,off,e,by simp;omega,fun j hj => ?_⟩
   rw [World.cell?_alloc_lt _ _ _ hb];exact hc j hj
 have hrow:=Row.lit w #[] 2 1 0 (by decide) (by simp)
 have HI:=Lib.hid I2
 have HR:=Lib.hid hrow
 clear I2 hrow
 go_enter Tryz.func201,Tryz.ntmps201
 go_wp2_with (at_builtin;refine xW (o:=⟨some 7,_,_,_,_,_⟩) ?_)
 refine jA.go ?_
 refine xF rfl _ _ 24 rfl 2 (.int .i64 0) 1 8 tI64 (.slice (some ⟨w.heap.size,0,none⟩) 0 0) 0 [] (some w.heap.size) rfl (by simpa using HR.out) (some ad) xs.length c1 (xs.map (Value.int .i64)) rfl (by simp) (fun h => by cases h) (Row.cells_ints HI.out) (by intro u hu;obtain ⟨x,_,rfl⟩:=List.mem_map.1 hu;rfl) (by omega) (by unfold maxLen;omega) ?_
 intro v' w' og' happ
 rw [Nat.zero_add,List.nil_append] at happ
 have hlow:=happ.low (B:=w.heap.size) (by simp) (fun g hg => by cases hg;exact Nat.le_refl _)
 have hbel:Below w.heap.size w w':=((Below.refl w.heap.size w).alloc (Nat.le_refl _) (.cells #[] 2)).trans hlow.2
 have hown:Own (RS RI) w.heap.size w'.heap.size w' [v'] xs:=Row.OwnI (by simpa using happ.1) I1.bd hlow.1
 have HO:=Lib.hid hown
 obtain ⟨oa',cap',rfl,_⟩:=hown.val
 clear hown happ hlow
 go_wp2_with fail
 go_ret
 exact ⟨_,rfl,HO.out,hbel⟩
theorem take_snoc (xs:List (List Int)) (k:Nat) (h:k < xs.length):xs.take (k + 1) = xs.take k ++ [xs[k]]:=List.take_succ_eq_append_getElem h
theorem kZ0 (v:Value) (bs:List (List Int)) (w:World) (h:Rd (RS (RS RI)) w [v] bs) (hsz:bs.length ≤ 1000000000) (hsl:∀ b ∈ bs,b.length ≤ 1000000000) :
  Calls Tryz.prog 152 #[v] w (RetO (RS (RS RI)) w bs):=by
 obtain ⟨oa,cap,L⟩:=h.lists
 obtain rfl:=L.val
 have m1:=L.le;have m2:=L.capLe
 have HL:=Lib.hid L
 have HS:=Lib.hid hsl
 clear L h hsl
 go_enter Tryz.func152,Tryz.ntmps152
 go_wp2_with fail
 go_loopw [3,9] (fun o i wr => ∃ (k:Nat) (r:List (List Int)),k ≤ bs.length∧i = .int .i64 k∧Hid (r = bs.take k)∧r.length ≤ 1000000000∧(∃ oa cap,o = .slice oa r.length cap)∧Hid (Own (RS (RS RI)) w.heap.size wr.heap.size wr [o] r)∧Below w.heap.size w wr) (fun _ i _ => bs.length - (intOf i).toNat)
 case atStart => exact ⟨0,[],Nat.zero_le _,rfl,Lib.hid rfl,by simp,⟨_,_,rfl⟩,Lib.hid ((Own.empty (R:=RS RI) (w:=w) 24 w.heap.size (Nat.le_refl _)).top _ (by simp)),(Below.refl _ _).alloc (Nat.le_refl _) _⟩
 case round =>
  obtain ⟨k,r,hk,rfl,hr,hrl,⟨o1,cap1,rfl⟩,hown,hbel⟩:=hrel
  have hsz1:=hbel.size
  by_cases hlt:k < bs.length
  ·obtain ⟨b,off,rfl,hb,hc⟩:=HL.out.get hlt
   obtain ⟨oi,ci,g1,hrd,q1,q2⟩:=hc k hlt
   have g2:wr.cell? ⟨b,off + k,none⟩ = some (.slice oi bs[k].length ci):=(hbel.cell (p:=⟨b,off + k,none⟩) hb).trans g1
   obtain ⟨x,hx⟩:∃ x,x = bs[k]:=⟨_,rfl⟩
   have hxl:x.length ≤ 1000000000:=by rw [hx];exact HS.out _ (List.getElem_mem hlt)
   have hnx:=take_snoc bs k hlt
   have hrlen:r.length = k:=by rw [hr.out];simp;omega
   have hr2:r.length + 1 ≤ 1000000000:=by omega
   rw [← hx] at g2 hrd q1 hnx
   rw [← hr.out] at hnx
   have hcl:=kU0 _ x wr (hrd.below hbel (Nat.le_refl _)) hxl
   have HN:=Lib.hid hnx
   clear hc g1 hx hrd hnx hrlen
   go_wp2_with (first|(go_at_call 201;refine hcl.mono ?_;rintro e w2 ⟨u,rfl,o2,b2⟩;obtain ⟨ou,cu,rfl,lu1,lu2⟩:=o2.val)|(at_builtin;refine xW (o:=⟨some 17,_,_,_,_,_⟩) ?_))
   refine jA.go ?_
   have hb2:=b2.size
   refine qO0 (w:=w2) (R:=RS RI) rfl _ _ 36 rfl 24 (.slice none 0 0) 1 24 tI64S rfl (.slice o1 r.length cap1) r x [.slice ou x.length cu] w.heap.size wr.heap.size w2.heap.size rfl (hown.out.below b2 (Nat.le_refl _)) o2 hb2 hsz1 24 rfl rfl (by omega) (by omega) ?_
   intro oa1 cap1' w1 hown1 c1a c1b hbel1
   have hb3:=(hbel.trans (b2.mono hsz1)).trans hbel1
   obtain ⟨r',hr'⟩:∃ r',r' = r ++ [x]:=⟨_,rfl⟩
   have HR:Hid (r' = bs.take (k + 1)):=Lib.hid (by rw [hr',HN.out])
   have e1:r.length + 1 = r'.length:=by rw [hr'];simp
   rw [← hr',e1] at hown1
   have HO:Hid (Own (RS (RS RI)) w.heap.size w1.heap.size w1 [.slice oa1 r'.length cap1'] r'):=hown1
   rw [e1] at hr2
   rw [e1]
   clear hown1 hbel1 hown e1 hr' hcl o2
   go_wp2_with fail
   go_roundw
   case rel => exact ⟨k + 1,r',by omega,by go_num,HR,hr2,⟨_,_,rfl⟩,HO,hb3⟩
   case measure => simp [intOf];omega
  ·have hfin:Hid (r = bs):=Lib.hid (by rw [hr.out,List.take_of_length_le (by omega)])
   go_wp2_with fail
   go_ret
   exact ⟨_,rfl,by rw [← hfin.out];exact hown.out,hbel⟩
theorem c_impl_forestOf (v:Value) (bs:List (List Int)) (w:World) (h:Rd (RS (RS RI)) w [v] bs) (hsz:bs.length ≤ 19) (hsl:∀ b ∈ bs,b.length ≤ 1000000000) :
  Calls Tryz.prog 102 #[v] w (RetO (RS (RS RI)) w (forest bs)):=by
 have hc:=kZ0 v bs w h (by omega) hsl
 have EG:=Lib.hid (enters (P:=Tryz.prog) (f:=119) Tryz.func119 (by kernel_rfl) rfl)
 have HA:Hid (vV Tryz.prog 119 cmpT (fun _ => True)):=Lib.hid (fun w h1 h2 x y r1 r2 _ _ => qB0 h1 h2 x y w r1 r2)
 clear h hsl
 go_enter Tryz.func102,Tryz.ntmps102
 go_wp2_with (go_at_call 152;refine hc.mono ?_;rintro e w1 ⟨u,rfl,o1,b1⟩;obtain ⟨ou,cu,rfl,lu1,lu2⟩:=o1.val)
 have hs:=c_SortStable 119 cmpT yV (fun _ => True) EG.out HA.out _ bs w.heap.size w1.heap.size w1 o1 (fun _ _ => trivial) (by omega)
 have hb1:=b1.size
 clear o1 hc
 go_wp2_with (go_at_call 163;refine hs.mono ?_;rintro e w3 ⟨rfl,o3,ch3⟩)
 go_ret
 have hb3:Below w.heap.size w w3:=b1.trans (ch3.below (Nat.le_refl _) hb1)
 exact ⟨_,rfl,o3.mono (Nat.le_refl _) ch3.size,hb3⟩
def jK (bs:List (List Int)):Int:=bs.foldl (fun a b => wrap64 (a + b.length)) 0
theorem xF0 (bs:List (List Int)) (k:Nat) (h:k < bs.length):jK (bs.take (k + 1)) = wrap64 (jK (bs.take k) + bs[k].length):=by
 unfold jK
 rw [List.take_succ_eq_append_getElem h,List.foldl_append];rfl
theorem xI (bs:List (List Int)) (h:qX bs ≤ 1000000000000000000):jK bs = qX bs:=by
 have:∀ (bs:List (List Int)) (n:Nat),n + qX bs ≤ 1000000000000000000→bs.foldl (fun a b => wrap64 (a + (b.length:Int))) (n:Int) = (n + qX bs:Nat):=by
  intro bs
  induction bs with
  | nil => intro n _;simp [qX]
  | cons b bs ih =>
   intro n hn
   simp only [qX,List.map_cons,List.sum_cons] at hn
   rw [List.foldl_cons]
   have e:wrap64 ((n:Int) + b.length) = ((n + b.length:Nat):Int):=by unfold wrap64;omega
   rw [e,ih (n + b.length) (by unfold qX;omega)]
   simp only [qX,List.map_cons,List.sum_cons]
   omega
 unfold jK;simpa using this bs 0 (by omega)
theorem yO0 (v:Value) (bs:List (List Int)) (w:World) (h:Rd (RS (RS RI)) w [v] bs) :
  Calls Tryz.prog 88 #[v] w (jB w (.int .i64 (jK bs))):=by
 obtain ⟨oa,cap,L⟩:=h.lists
 obtain rfl:=L.val
 have m1:=L.le;have m2:=L.capLe
 have HL:=Lib.hid L
 clear L h
 go_enter Tryz.func88,Tryz.ntmps88
 go_wp2_with fail
 go_loop [3,8] (fun s i => ∃ (k:Nat),k ≤ bs.length∧i = .int .i64 k∧s = .int .i64 (jK (bs.take k))) (fun _ i => bs.length - (intOf i).toNat)
 case atStart => exact ⟨0,Nat.zero_le _,rfl,rfl⟩
 case round =>
  obtain ⟨k,hk,rfl,rfl⟩:=hrel
  by_cases hlt:k < bs.length
  ·obtain ⟨b,off,rfl,hb,hc⟩:=HL.out.get hlt
   obtain ⟨oi,ci,g1,hrd,q1,q2⟩:=hc k hlt
   have hnx:=xF0 bs k hlt
   obtain ⟨x,hx⟩:∃ x,x = bs[k].length:=⟨_,rfl⟩
   obtain ⟨s,hs⟩:∃ s,s = jK (bs.take k):=⟨_,rfl⟩
   rw [← hx] at g1 q1 hnx
   rw [← hs] at hnx
   rw [← hs]
   have hw:IntKind.i64.wrap (s + (x:Int)) = wrap64 (s + x):=IntWalk.i64_left _
   obtain ⟨g,hg⟩:∃ g,g = wrap64 (s + x):=⟨_,rfl⟩
   rw [← hg] at hw hnx
   have HN:=Lib.hid hnx
   clear hc hrd hx hs hg hnx
   go_wp2_with fail
   go_round
   case rel => exact ⟨k + 1,by omega,by go_num,by rw [HN.out]⟩
   case measure => simp [intOf];omega
  ·have hfin:bs.take k = bs:=List.take_of_length_le (by omega)
   have HF:=Lib.hid hfin
   clear hfin
   go_wp2_with fail
   go_ret
   exact ⟨by simp [HF.out],rfl⟩
theorem c_spec_l03Nodes (v:Value) (bs:List (List Int)) (w:World) (h:Rd (RS (RS RI)) w [v] bs) :
  Calls Tryz.prog 130 #[v] w (jB w (.int .i64 (jK bs))):=by
 obtain ⟨oa,cap,L⟩:=h.lists
 obtain rfl:=L.val
 have m1:=L.le;have m2:=L.capLe
 have HL:=Lib.hid L
 clear L h
 go_enter Tryz.func130,Tryz.ntmps130
 go_wp2_with fail
 go_loop [3,4] (fun s i => ∃ (k:Nat),k ≤ bs.length∧i = .int .i64 k∧s = .int .i64 (jK (bs.take k))) (fun _ i => bs.length - (intOf i).toNat)
 case atStart => exact ⟨0,Nat.zero_le _,rfl,rfl⟩
 case round =>
  obtain ⟨k,hk,rfl,rfl⟩:=hrel
  by_cases hlt:k < bs.length
  ·obtain ⟨b,off,rfl,hb,hc⟩:=HL.out.get hlt
   obtain ⟨oi,ci,g1,hrd,q1,q2⟩:=hc k hlt
   have hnx:=xF0 bs k hlt
   obtain ⟨x,hx⟩:∃ x,x = bs[k].length:=⟨_,rfl⟩
   obtain ⟨s,hs⟩:∃ s,s = jK (bs.take k):=⟨_,rfl⟩
   rw [← hx] at g1 q1 hnx
   rw [← hs] at hnx
   rw [← hs]
   have hw:IntKind.i64.wrap (s + (x:Int)) = wrap64 (s + x):=IntWalk.i64_left _
   obtain ⟨g,hg⟩:∃ g,g = wrap64 (s + x):=⟨_,rfl⟩
   rw [← hg] at hw hnx
   have HN:=Lib.hid hnx
   clear hc hrd hx hs hg hnx
   go_wp2_with fail
   go_round
   case rel => exact ⟨k + 1,by omega,by go_num,by rw [HN.out]⟩
   case measure => simp [intOf];omega
  ·have hfin:bs.take k = bs:=List.take_of_length_le (by omega)
   have HF:=Lib.hid hfin
   clear hfin
   go_wp2_with fail
   go_ret
   exact ⟨by simp [HF.out],rfl⟩
end
section
def OwnF {α:Type} (R:Rep α) (F:List Nat) (w:World) (cs:List Value) (x:α):Prop:=R.own w cs x F∧F.Nodup
theorem OwnF.of {α:Type} {R:Rep α} {lo hi:Nat} {w:World} {cs:List Value} {x:α} (h:Own R lo hi w cs x):∃ F,OwnF R F w cs x∧∀ b,b ∈ F→lo ≤ b∧b < hi :=
 let ⟨F,h1,h2,h3⟩:=h;⟨F,⟨h1,h2⟩,h3⟩
theorem OwnF.to {α:Type} {R:Rep α} {lo hi:Nat} {F:List Nat} {w:World} {cs:List Value} {x:α} (h:OwnF R F w cs x) (hb:∀ b,b ∈ F→lo ≤ b∧b < hi):Own R lo hi w cs x:=⟨F,h.1,h.2,hb⟩
theorem OwnF.frame {α:Type} {R:Rep α} {F:List Nat} {w w':World} {cs:List Value} {x:α} (h:OwnF R F w cs x) (hf:∀ b,b ∈ F→w'.heap[b]? = w.heap[b]?):OwnF R F w' cs x:=⟨R.own_frame h.1 hf,h.2⟩
theorem OwnF.lt {α:Type} {R:Rep α} {F:List Nat} {w:World} {cs:List Value} {x:α} (h:OwnF R F w cs x):∀ b,b ∈ F→b < w.heap.size:=R.own_lt h.1
theorem OwnF.rd {α:Type} {R:Rep α} {F:List Nat} {w:World} {cs:List Value} {x:α} (h:OwnF R F w cs x):Rd R w cs x:=R.rd_mono (R.own_rd h.1) (fun _ _ h => h)
structure ChgF (F:List Nat) (w w':World):Prop where
 os:w'.os = w.os
 tape:w'.tape = w.tape
 output:w'.output = w.output
 size:w.heap.size ≤ w'.heap.size
 block:∀ k,k < w.heap.size→k ∉ F→w'.heap[k]? = w.heap[k]?
theorem ChgF.refl (F:List Nat) (w:World):ChgF F w w:=⟨rfl,rfl,rfl,Nat.le_refl _,fun _ _ _ => rfl⟩
theorem ChgF.of_grown {w w':World} {og:Option Nat} (h:w.grownBy w' og):ChgF og.toList w w':=⟨h.os,h.tape,h.output,h.size,fun k hk hn => h.block k hk (fun e => hn (by simp [← e]))⟩
theorem ChgF.mono {F G:List Nat} {w w':World} (h:ChgF F w w') (hs:∀ b,b ∈ F→b ∈ G):ChgF G w w':=⟨h.os,h.tape,h.output,h.size,fun k hk hn => h.block k hk (fun e => hn (hs k e))⟩
theorem ChgF.trans {F:List Nat} {a b c:World} (h:ChgF F a b) (k:ChgF F b c):ChgF F a c :=
 ⟨k.os.trans h.os,k.tape.trans h.tape,k.output.trans h.output,Nat.le_trans h.size k.size,fun i hi hn => (k.block i (Nat.lt_of_lt_of_le hi h.size) hn).trans (h.block i hi hn)⟩
theorem ChgF.below {F:List Nat} {w w':World} {B:Nat} (h:ChgF F w w') (hB:B ≤ w.heap.size) (hF:∀ b,b ∈ F→B ≤ b):Below B w w' :=
 ⟨h.os,h.tape,h.output,h.size,fun k hk => h.block k (by omega) (fun e => by have:=hF k e;omega)⟩
section
variable {α:Type} {R:Rep α} {w:World}
end
theorem Rd.lit {α:Type} {R:Rep α} {w W:World} {ds:List Value} {xs:List α} {E:TypeId} (h:rdL R (fun b => b < w.heap.size) w ds xs) (e:W.heap = (w.alloc (.cells ds.toArray E)).heap) (hn:xs.length ≤ maxLen) :
  Rd (RS R) W [.slice (some ⟨w.heap.size,0,none⟩) xs.length xs.length] xs:=by
 refine Rd.of_heap (w:=w.alloc (.cells ds.toArray E)) ?_ e
 have hb:Below w.heap.size w (w.alloc (.cells ds.toArray E)):=(Below.refl _ _).alloc (Nat.le_refl _) _
 refine ⟨some ⟨w.heap.size,0,none⟩,xs.length,ds,rfl,Nat.le_refl _,hn,by simp,?_,.inr ⟨w.heap.size,0,rfl,by simp,fun j u hj => ?_⟩⟩
 ·exact (h.frame (fun b h1 _ => hb.block b h1)).mono (fun b h1 h2 => h2)
 ·rw [Nat.zero_add,World.cell?_alloc_at _ _ _ _ rfl]
  simpa using hj
end
section
theorem qK:Tryz.prog.follows .mixedOrders = true:=by kernel_rfl
section
variable {P:Program} {f:FuncId}
theorem rdLL {A:Nat→Prop} {w:World} {xs:List (List Int)} {v:Value} (h:vZ A w (eLL xs) v):(RS (RS RI)).rd A w [v] xs:=((encS (encS encI)).rdV (x:=xs) rfl).2 h
theorem arg_int {A:Nat→Prop} {w:World} {n:Int} {v:Value} (h:vZ A w (eI n) v):v = .int .i64 n:=(jY.1 h).1
theorem afn_L_s {t:List Int} {d:D} {v:Value} (eg:∀ args w,(callFunc f args).run P w = .ok (.enter f args) w) (hd:∀ A w,rdV A w v d) (h:∀ u w,Rd (RS RI) w [u] t→Calls P f #[u] w (jB w v)):AFn P f [eL t] (· = [.val d]) :=
 AFn.of_s eg hd (fun w A vs ⟨v1,_,e1,h1,e2⟩ => by subst e2;subst e1;exact h v1 w (Rd.of (rd1 h1)))
theorem afn_L_q {t:List Int} {d:D} {v:Value} (eg:∀ args w,(callFunc f args).run P w = .ok (.enter f args) w) (hd:∀ A w,rdV A w v d) (h:∀ u w,Rd (RS RI) w [u] t→Calls P f #[u] w (RetQ w v)):AFn P f [eL t] (· = [.val d]) :=
 AFn.of_q eg hd (fun w A vs ⟨v1,_,e1,h1,e2⟩ => by subst e2;subst e1;exact h v1 w (Rd.of (rd1 h1)))
theorem afn_LL_q {s t:List Int} {d:D} {v:Value} (eg:∀ args w,(callFunc f args).run P w = .ok (.enter f args) w) (hd:∀ A w,rdV A w v d) (h:∀ u1 u2 w,Rd (RS RI) w [u1] s→Rd (RS RI) w [u2] t→Calls P f #[u1,u2] w (RetQ w v)):AFn P f [eL s,eL t] (· = [.val d]) :=
 AFn.of_q eg hd (fun w A vs ⟨v1,_,e1,h1,v2,_,e2,h2,e3⟩ => by subst e3;subst e2;subst e1;exact h v1 v2 w (Rd.of (rd1 h1)) (Rd.of (rd1 h2)))
theorem afn_L_o {t r:List Int} (eg:∀ args w,(callFunc f args).run P w = .ok (.enter f args) w) (h:∀ u w,Rd (RS RI) w [u] t→Calls P f #[u] w (RetO (RS RI) w r)):AFn P f [eL t] (· = [.own 1 (r.map eI) true]) :=
 AFn.of_o encI eg (fun w A vs ⟨v1,_,e1,h1,e2⟩ => by subst e2;subst e1;exact h v1 w (Rd.of (rd1 h1)))
theorem afn_L_oo {t:List Int} {r:List (List Int)} (eg:∀ args w,(callFunc f args).run P w = .ok (.enter f args) w) (h:∀ u w,Rd (RS RI) w [u] t→Calls P f #[u] w (RetO (RS (RS RI)) w r)):AFn P f [eL t] (· = [.own 1 (r.map eL) true]) :=
 AFn.of_o (encS encI) eg (fun w A vs ⟨v1,_,e1,h1,e2⟩ => by subst e2;subst e1;exact h v1 w (Rd.of (rd1 h1)))
theorem afn_LLL_oo {t r:List (List Int)} (eg:∀ args w,(callFunc f args).run P w = .ok (.enter f args) w) (h:∀ u w,Rd (RS (RS RI)) w [u] t→Calls P f #[u] w (RetO (RS (RS RI)) w r)):AFn P f [eLL t] (· = [.own 1 (r.map eL) true]) :=
 AFn.of_o (encS encI) eg (fun w A vs ⟨v1,_,e1,h1,e2⟩ => by subst e2;subst e1;exact h v1 w (Rd.of (rdLL h1)))
theorem afn_LLL_o {t:List (List Int)} {r:List Int} (eg:∀ args w,(callFunc f args).run P w = .ok (.enter f args) w) (h:∀ u w,Rd (RS (RS RI)) w [u] t→Calls P f #[u] w (RetO (RS RI) w r)):AFn P f [eLL t] (· = [.own 1 (r.map eI) true]) :=
 AFn.of_o encI eg (fun w A vs ⟨v1,_,e1,h1,e2⟩ => by subst e2;subst e1;exact h v1 w (Rd.of (rdLL h1)))
theorem afn_LLL_s {t:List (List Int)} {d:D} {v:Value} (eg:∀ args w,(callFunc f args).run P w = .ok (.enter f args) w) (hd:∀ A w,rdV A w v d) (h:∀ u w,Rd (RS (RS RI)) w [u] t→Calls P f #[u] w (jB w v)):AFn P f [eLL t] (· = [.val d]) :=
 AFn.of_s eg hd (fun w A vs ⟨v1,_,e1,h1,e2⟩ => by subst e2;subst e1;exact h v1 w (Rd.of (rdLL h1)))
theorem afn_III_s {x y z:Int} {d:D} {v:Value} (eg:∀ args w,(callFunc f args).run P w = .ok (.enter f args) w) (hd:∀ A w,rdV A w v d) (h:∀ w,Calls P f #[.int .i64 x,.int .i64 y,.int .i64 z] w (jB w v)):AFn P f [eI x,eI y,eI z] (· = [.val d]) :=
 AFn.of_s eg hd (fun w A vs ⟨v1,_,e1,h1,v2,_,e2,h2,v3,_,e3,h3,e4⟩ => by subst e4;subst e3;subst e2;subst e1;rw [arg_int h1,arg_int h2,arg_int h3];exact h w)
theorem afn_I_s {x:Int} {d:D} {v:Value} (eg:∀ args w,(callFunc f args).run P w = .ok (.enter f args) w) (hd:∀ A w,rdV A w v d) (h:∀ w,Calls P f #[.int .i64 x] w (jB w v)):AFn P f [eI x] (· = [.val d]) :=
 AFn.of_s eg hd (fun w A vs ⟨v1,_,e1,h1,e2⟩ => by subst e2;subst e1;rw [arg_int h1];exact h w)
end
def Rg {α:Type} (R:Rep α) (lo hi:Nat) (w:World) (cs:List Value) (x:α):Prop:=R.rd (fun b => lo ≤ b∧b < hi) w cs x
theorem Rg.rd {α:Type} {R:Rep α} {lo hi:Nat} {w:World} {cs:List Value} {x:α} (h:Rg R lo hi w cs x):Rd R w cs x:=R.rd_mono h (fun _ _ h => h)
theorem Rg.frame {α:Type} {R:Rep α} {lo hi:Nat} {w w':World} {cs:List Value} {x:α} (h:Rg R lo hi w cs x) (hf:∀ b,lo ≤ b→b < hi→b < w.heap.size→w'.heap[b]? = w.heap[b]?):Rg R lo hi w' cs x:=R.rd_frame h (fun b hb hl => hf b hb.1 hb.2 hl)
theorem Rg.below {α:Type} {R:Rep α} {lo hi B:Nat} {w w':World} {cs:List Value} {x:α} (h:Rg R lo hi w cs x) (hb:Below B w w') (hB:hi ≤ B):Rg R lo hi w' cs x:=h.frame (fun b _ h2 _ => hb.block b (by omega))
theorem Rg.apart {α:Type} {R:Rep α} {w w':World} {cs:List Value} {x:α} {lo hi l h:Nat} (o:Rg R l h w cs x) (c:Chg lo hi w w') (ha:h ≤ lo ∨ hi ≤ l):Rg R l h w' cs x:=o.frame (fun b h1 h2 h3 => c.block b h3 (by omega))
section
variable {P:Program} {f:FuncId} {α:Type} {R:Rep α} {e:α→List D}
theorem AFn.one {ds:List (List D)} {v:Value} {d:D} (hd:∀ A w u,rdV A w u d→u = v) (h:AFn P f ds (· = [.val d])) {w:World} {vs:List Value} (hv:jX (· < w.heap.size) w ds vs) :
  Calls P f vs.toArray w (RetV w v):=by
 refine (h.fn _ w vs (fun _ h => h) hv).mono ?_
 rintro e' w' ⟨v',rs,rfl,rfl,hb,us,G,X,rfl,hG,hG2,u,us',G1,G2,Y1,Y2,rfl,rfl,rfl,h1,⟨h4,_,_⟩,rfl,rfl,rfl⟩
 rw [hd _ _ _ h4]
 exact ⟨rfl,hb⟩
theorem args1 {w:World} {a:List D} {u:Value} (h:vZ (· < w.heap.size) w a u):jX (· < w.heap.size) w [a] [u]:=⟨u,[],rfl,h,rfl⟩
end
end
section
theorem a_l03Before (xs ys:List Int):AFn Tryz.prog 129 [eL xs,eL ys] (· = [.val (.bool (decide (cmpT xs ys < 0)))]) :=
 AFn.of_q (v:=.bool _) (enters_of Tryz.func129 rfl rfl) (fun _ _ => jP.2 rfl) (fun w A vs ⟨v1,_,e1,h1,v2,_,e2,h2,e3⟩ => by subst e3;subst e2;subst e1;exact xG0 v1 v2 xs ys w (Rd.of (rd1 h1)) (Rd.of (rd1 h2)))
theorem a_l01Same (xs ys:List Int):AFn Tryz.prog 189 [eL xs,eL ys] (· = [.val (.bool (decide (xs = ys)))]) :=
 AFn.of_q (v:=.bool _) (enters_of Tryz.func189 rfl rfl) (fun _ _ => jP.2 rfl) (fun w A vs ⟨v1,_,e1,h1,v2,_,e2,h2,e3⟩ => by subst e3;subst e2;subst e1;exact c_spec_l01Same v1 v2 xs ys w (Rd.of (rd1 h1)) (Rd.of (rd1 h2)))
theorem a_l01Own (xs:List Int) (hsz:xs.length ≤ 1000000000):AFn Tryz.prog 133 [eL xs] (· = [.own 1 (xs.map eI) true]) :=
 AFn.of_o encI (enters_of Tryz.func133 rfl rfl) (fun w A vs ⟨v1,_,e1,h1,e2⟩ => by subst e2;subst e1;exact kC0 v1 xs w (Rd.of (rd1 h1)) hsz)
theorem cmpT_in64 {xs ys:List Int} (h1:xs.length ≤ maxLen) (h2:ys.length ≤ maxLen):qH (cmpT xs ys):=by
 unfold maxLen at h1 h2
 unfold cmpT qH
 have:=cmpL_range ys xs
 split <;> omega
theorem a_compareTrees (xs ys:List Int):AFn Tryz.prog 119 [eL xs,eL ys] (· = [.val (.int (cmpT xs ys))]):=by
 refine ⟨enters_of Tryz.func119 rfl rfl,fun A w vs hA ⟨v1,_,e1,h1,v2,_,e2,h2,e3⟩ => ?_⟩
 subst e3;subst e2;subst e1
 obtain ⟨oa,c1,k1,m1,m2⟩:=(Rd.of (rd1 h1)).val
 obtain ⟨ob,c2,k2,m3,m4⟩:=(Rd.of (rd1 h2)).val
 refine (qB0 v1 v2 xs ys w (Rd.of (rd1 h1)) (Rd.of (rd1 h2))).mono ?_
 rintro e w' ⟨rfl,rfl⟩
 exact ⟨_,_,rfl,rfl,Below.refl _ _,[_],[],[],rfl,List.nodup_nil,by simp,_,[],[],[],[],[],rfl,rfl,rfl,rfl,⟨jY.2 ⟨rfl,cmpT_in64 (by omega) (by omega)⟩,rfl,rfl⟩,rfl,rfl,rfl⟩
theorem a_impl_IsLevels (t:List Int):AFn Tryz.prog 57 [eL t] (· = [.val (.bool (lev8 t))]):=afn_L_s (v:=.bool _) (enters_of Tryz.func57 rfl rfl) (fun _ _ => jP.2 rfl) (fun u w h => c_impl_IsLevels u t w h)
theorem a_spec_l03Is (t:List Int) (hsz:t.length ≤ 1048576):AFn Tryz.prog 188 [eL t] (· = [.val (.bool (lev8 t))]):=afn_L_q (v:=.bool _) (enters_of Tryz.func188 rfl rfl) (fun _ _ => jP.2 rfl) (fun u w h => c_spec_l03Is u t w h (by omega))
theorem a_slicesEqual (xs ys:List Int):AFn Tryz.prog 180 [eL xs,eL ys] (· = [.val (.bool (decide (xs = ys)))]):=afn_LL_q (v:=.bool _) (enters_of Tryz.func180 rfl rfl) (fun _ _ => jP.2 rfl) (fun u1 u2 w h1 h2 => c_slicesEqual u1 u2 xs ys w h1 h2)
theorem a_spec_l01In (x y z:Int):AFn Tryz.prog 135 [eI x,eI y,eI z] (· = [.val (.bool (inR x y z))]):=afn_III_s (v:=.bool _) (enters_of Tryz.func135 rfl rfl) (fun _ _ => jP.2 rfl) (fun w => yL0 x y z w)
theorem a_l03Canon (t:List Int) (h:qU t) (hl:t.length ≤ 8):AFn Tryz.prog 186 [eL t] (· = [.own 1 ((canon t).map eI) true]) :=
 afn_L_o (enters_of Tryz.func186 rfl rfl) (fun u w h' => xH0 8 u t w h' h hl (by omega))
theorem a_canonical (t:List Int) (h:qU t) (hl:t.length ≤ 8):AFn Tryz.prog 91 [eL t] (· = [.own 1 ((canon t).map eI) true]) :=
 afn_L_o (enters_of Tryz.func91 rfl rfl) (fun u w h' => xI0 8 u t w h' h hl (by omega))
theorem nodesB_in64 (f:List (List Int)):qH (jK f):=by
 have:∀ (bs:List (List Int)) (a:Int),qH a→qH (bs.foldl (fun a b => wrap64 (a + (b.length:Int))) a):=by
  intro bs
  induction bs with
  | nil => intro a h;exact h
  | cons b bs ih => intro a _;exact ih _ (by show qH (wrap64 (a + (b.length:Int)));unfold qH wrap64;omega)
 exact this f 0 (by unfold qH;omega)
theorem a_nodesIn (f:List (List Int)):AFn Tryz.prog 88 [eLL f] (· = [.val (.int (jK f))]) :=
 afn_LLL_s (enters_of Tryz.func88 rfl rfl) (fun _ _ => jY.2 ⟨rfl,nodesB_in64 f⟩) (fun u w h => yO0 u f w h)
theorem a_l03Nodes (f:List (List Int)):AFn Tryz.prog 130 [eLL f] (· = [.val (.int (jK f))]) :=
 afn_LLL_s (enters_of Tryz.func130 rfl rfl) (fun _ _ => jY.2 ⟨rfl,nodesB_in64 f⟩) (fun u w h => c_spec_l03Nodes u f w h)
end
section
def mP (n:Int):Int:=n % 10007
section
variable {κ:Type} (c:κ→κ→Int)
def putS:List (Int × κ)→Int→κ→List (Int × κ)
 | [],k,x => if k = 0 then [] else [(k,x)]
 | (a,y) :: L,k,x => if k = 0 then (a,y) :: L else if c x y < 0 then (k,x) :: (a,y) :: L
   else if c x y = 0 then (if mP (a + k) = 0 then L else (mP (a + k),y) :: L) else (a,y) :: putS L k x
def addS (L:List (Int × κ)) (M:List (Int × κ)):List (Int × κ):=M.foldl (fun s q => putS c s q.1 q.2) L
def sumS (M:List (Int × κ)):List (Int × κ):=addS c [] M
def coef (L:List (Int × κ)) (x:κ):Int :=
 match L with
 | [] => 0
 | q :: L => (if c q.2 x = 0 then q.1 else 0) + coef L x
def NfS (L:List (Int × κ)):Prop:=L.Pairwise (fun p q => c p.2 q.2 < 0)∧∀ q ∈ L,1 ≤ q.1∧q.1 < 10007
end
section
variable {κ:Type} {c:κ→κ→Int} (hc:Cmp c)
theorem jR (n:Int):0 ≤ mP n∧mP n < 10007:=⟨Int.emod_nonneg _ (by decide),Int.emod_lt_of_pos _ (by decide)⟩
theorem mP_small {n:Int} (h:0 ≤ n) (h':n < 10007):mP n = n:=Int.emod_eq_of_lt h h'
theorem jN (q:Int × κ) (L:List (Int × κ)) (x:κ):coef c (q :: L) x = (if c q.2 x = 0 then q.1 else 0) + coef c L x:=rfl
theorem qD0 (x:κ):∀ (L M:List (Int × κ)),coef c (L ++ M) x = coef c L x + coef c M x
 | [],M => by simp [coef]
 | q :: L,M => by rw [List.cons_append,jN,jN,qD0 x L M];omega
theorem coef_perm {L M:List (Int × κ)} (h:L.Perm M) (x:κ):coef c L x = coef c M x:=by
 induction h with
 | nil => rfl
 | cons q _ ih => rw [jN,jN,ih]
 | swap p q L => simp only [jN];omega
 | trans _ _ h1 h2 => rw [h1,h2]
theorem kS {L:List (Int × κ)} {x:κ} (h:∀ q ∈ L,c q.2 x ≠ 0):coef c L x = 0:=by
 induction L with
 | nil => rfl
 | cons q L ih => rw [jN,if_neg (h q (by simp)),ih (fun p hp => h p (by simp [hp]))];rfl
theorem xL {α:Type} (l:List α):l = [] ∨ ∃ o x,l = o ++ [x]:=by
 rcases List.eq_nil_or_concat l with h|⟨o,x,h⟩
 ·exact .inl h
 ·exact .inr ⟨o,x,by rw [h,List.concat_eq_append]⟩
include hc
theorem Cmp.eq_swap {a b:κ} (h:c a b = 0):c b a = 0:=by rw [hc.zero a b h];exact hc.refl b
theorem Cmp.lt_ne {a b:κ} (h:c a b < 0):c b a ≠ 0:=by
 intro e
 have:=hc.zero b a e
 subst this
 rw [hc.refl] at h;omega
theorem Cmp.lt_tr {a b d:κ} (h1:c a b < 0) (h2:c b d < 0):c a d < 0:=by
 rcases Int.lt_trichotomy (c a d) 0 with h|h|h
 ·exact h
 ·have:=hc.zero a d h
  subst this
  have:=(hc.anti a b).1 h1
  omega
 ·have:=hc.trans a b d (by omega) (by omega)
  omega
theorem NfS.ext:∀ {L M:List (Int × κ)},NfS c L→NfS c M→(∀ x,mP (coef c L x) = mP (coef c M x))→L = M
 | [],[],_,_,_ => rfl
 | [],(b,z) :: M,_,⟨h2,h3⟩,he => by
  exfalso
  rw [List.pairwise_cons] at h2
  have h0:coef c M z = 0:=kS (fun q hq => hc.lt_ne (h2.1 q hq))
  have:=he z
  rw [jN,if_pos (hc.refl z),h0] at this
  have hb:=h3 (b,z) (by simp)
  simp at hb
  simp [coef,mP] at this
  omega
 | (a,y) :: L,[],⟨h2,h3⟩,_,he => by
  exfalso
  rw [List.pairwise_cons] at h2
  have h0:coef c L y = 0:=kS (fun q hq => hc.lt_ne (h2.1 q hq))
  have:=he y
  rw [jN,if_pos (hc.refl y),h0] at this
  have hb:=h3 (a,y) (by simp)
  simp at hb
  simp [coef,mP] at this
  omega
 | (a,y) :: L,(b,z) :: M,⟨h1,h1'⟩,⟨h2,h2'⟩,he => by
  have w1:=h1;have w2:=h2
  rw [List.pairwise_cons] at h1 h2
  have ha:=h1' (a,y) (by simp)
  have hb:=h2' (b,z) (by simp)
  simp only at ha hb
  have hy0:coef c L y = 0:=kS (fun q hq => hc.lt_ne (h1.1 q hq))
  have hz0:coef c M z = 0:=kS (fun q hq => hc.lt_ne (h2.1 q hq))
  rcases Int.lt_trichotomy (c y z) 0 with h|h|h
  ·exfalso
   have h4:coef c ((b,z) :: M) y = 0:=kS (fun q hq => by
    rcases List.mem_cons.1 hq with rfl|hq
    ·exact hc.lt_ne h
    ·exact hc.lt_ne (hc.lt_tr h (h2.1 q hq)))
   have:=he y
   rw [h4,jN,if_pos (hc.refl y),hy0] at this
   simp [mP] at this
   omega
  ·obtain rfl:=hc.zero y z h
   have hab:a = b:=by
    have:=he y
    rw [jN,jN,if_pos (hc.refl y),if_pos (hc.refl y),hy0,hz0] at this
    simp [mP] at this
    omega
   subst hab
   have:=NfS.ext (L:=L) (M:=M) ⟨h1.2,fun q hq => h1' q (by simp [hq])⟩ ⟨h2.2,fun q hq => h2' q (by simp [hq])⟩ (fun x => by
    have:=he x
    rw [jN,jN] at this
    unfold mP at this ⊢
    omega)
   rw [this]
  ·exfalso
   have h:=(hc.anti z y).2 h
   have h4:coef c ((a,y) :: L) z = 0:=kS (fun q hq => by
    rcases List.mem_cons.1 hq with rfl|hq
    ·exact hc.lt_ne h
    ·exact hc.lt_ne (hc.lt_tr h (h1.1 q hq)))
   have:=he z
   rw [h4,jN,if_pos (hc.refl z),hz0] at this
   simp [mP] at this
   omega
omit hc in
theorem putS_mem:∀ (L:List (Int × κ)) (k:Int) (x:κ) {q:Int × κ},q ∈ putS c L k x→q.2 = x ∨ ∃ p ∈ L,p.2 = q.2
 | [],k,x,q,h => by
  unfold putS at h
  split at h
  ·cases h
  ·simp at h;subst h;exact .inl rfl
 | (a,y) :: L,k,x,q,h => by
  unfold putS at h
  split at h
  ·exact .inr ⟨q,h,rfl⟩
  ·split at h
   ·rcases List.mem_cons.1 h with rfl|h
    ·exact .inl rfl
    ·exact .inr ⟨q,h,rfl⟩
   ·split at h
    ·split at h
     ·exact .inr ⟨q,by simp [h],rfl⟩
     ·rcases List.mem_cons.1 h with rfl|h
      ·exact .inr ⟨(a,y),by simp,rfl⟩
      ·exact .inr ⟨q,by simp [h],rfl⟩
    ·rcases List.mem_cons.1 h with rfl|h
     ·exact .inr ⟨(a,y),by simp,rfl⟩
     ·rcases putS_mem L k x h with h|⟨p,h1,h2⟩
      ·exact .inl h
      ·exact .inr ⟨p,by simp [h1],h2⟩
theorem putS_nf:∀ {L:List (Int × κ)} {k:Int} {x:κ},NfS c L→0 ≤ k→k < 10007→NfS c (putS c L k x)
 | [],k,x,h,h0,h1 => by
  unfold putS
  split
  ·exact h
  ·exact ⟨List.pairwise_singleton _ _,fun q hq => by simp at hq;subst hq;simp;omega⟩
 | (a,y) :: L,k,x,⟨h2,h3⟩,h0,h1 => by
  have hw:=h2
  rw [List.pairwise_cons] at h2
  have ha:=h3 (a,y) (by simp)
  simp only at ha
  unfold putS
  split
  ·exact ⟨hw,h3⟩
  ·split
   ·rename_i hk hlt
    refine ⟨List.pairwise_cons.2 ⟨fun q hq => ?_,hw⟩,fun q hq => ?_⟩
    ·rcases List.mem_cons.1 hq with rfl|hq
     ·exact hlt
     ·exact hc.lt_tr hlt (h2.1 q hq)
    ·rcases List.mem_cons.1 hq with rfl|hq
     ·simp;omega
     ·exact h3 q hq
   ·split
    ·split
     ·exact ⟨h2.2,fun q hq => h3 q (by simp [hq])⟩
     ·refine ⟨List.pairwise_cons.2 ⟨h2.1,h2.2⟩,fun q hq => ?_⟩
      rcases List.mem_cons.1 hq with rfl|hq
      ·have:=jR (a + k);simp only;omega
      ·exact h3 q (by simp [hq])
    ·rename_i hk hnl hne
     have ih:=putS_nf (k:=k) (x:=x) ⟨h2.2,fun q hq => h3 q (by simp [hq])⟩ h0 h1
     have hyx:c y x < 0:=by
      rcases Int.lt_trichotomy (c x y) 0 with h|h|h
      ·exact absurd h hnl
      ·exact absurd h hne
      ·exact (hc.anti y x).2 h
     refine ⟨List.pairwise_cons.2 ⟨fun q hq => ?_,ih.1⟩,fun q hq => ?_⟩
     ·rcases putS_mem L k x hq with h|⟨p,hp,h⟩
      ·rw [h];exact hyx
      ·rw [← h];exact h2.1 p hp
     ·rcases List.mem_cons.1 hq with rfl|hq
      ·exact ha
      ·exact ih.2 q hq
theorem putS_coef (z:κ):∀ (L:List (Int × κ)) (k:Int) (x:κ),mP (coef c (putS c L k x) z) = mP (coef c L z + if c x z = 0 then k else 0)
 | [],k,x => by
  unfold putS
  split
  ·rename_i h;subst h;simp
  ·simp [coef]
 | (a,y) :: L,k,x => by
  unfold putS
  split
  ·rename_i h;subst h;simp
  ·split
   ·rw [jN];congr 1;simp only;omega
   ·split
    ·rename_i h
     obtain rfl:=hc.zero x y h
     split
     ·rename_i h4
      rw [jN]
      by_cases h5:c x z = 0
      ·simp only [if_pos h5];unfold mP at h4 ⊢;omega
      ·simp only [if_neg h5];congr 1;omega
     ·rw [jN,jN]
      by_cases h5:c x z = 0
      ·simp only [if_pos h5];unfold mP;omega
      ·simp only [if_neg h5];congr 1;omega
    ·rw [jN,jN]
     have ih:=putS_coef z L k x
     unfold mP at ih ⊢
     omega
theorem addS_nf:∀ {M L:List (Int × κ)},NfS c L→(∀ q ∈ M,0 ≤ q.1∧q.1 < 10007)→NfS c (addS c L M)
 | [],L,h,_ => h
 | q :: M,L,h,hM => addS_nf (M:=M) (putS_nf hc h (hM q (by simp)).1 (hM q (by simp)).2) (fun p hp => hM p (by simp [hp]))
theorem addS_coef (z:κ):∀ (M L:List (Int × κ)),mP (coef c (addS c L M) z) = mP (coef c L z + coef c M z)
 | [],L => by simp [addS,coef]
 | q :: M,L => by
  show mP (coef c (addS c (putS c L q.1 q.2) M) z) = _
  have h1:=addS_coef z M (putS c L q.1 q.2)
  have h2:=putS_coef hc z L q.1 q.2
  rw [h1,jN]
  unfold mP at h2 ⊢
  omega
theorem vR {M:List (Int × κ)} (hM:∀ q ∈ M,0 ≤ q.1∧q.1 < 10007):NfS c (sumS c M):=addS_nf hc ⟨List.Pairwise.nil,fun q hq => nomatch hq⟩ hM
theorem sumS_coef (M:List (Int × κ)) (z:κ):mP (coef c (sumS c M) z) = mP (coef c M z):=by
 have:=addS_coef hc z M []
 rw [show coef c [] z = 0 from rfl,Int.zero_add] at this
 exact this
theorem sumS_self {L:List (Int × κ)} (h:NfS c L):sumS c L = L :=
 NfS.ext hc (vR hc (fun q hq => by have:=h.2 q hq;omega)) h (fun x => sumS_coef hc L x)
omit hc
def jI (c:κ→κ→Int):List (Int × κ)→List (Int × κ)→List (Int × κ)
 | out,[] => out
 | out,(a,x) :: M => jI c (match out.getLast? with
  | some (b,y) => if c y x = 0 then out.dropLast ++ [(mP (b + a),y)] else out ++ [(mP a,x)]
  | none => [(mP a,x)]) M
include hc
theorem mergeTo_coef (z:κ):∀ (M out:List (Int × κ)),mP (coef c (jI c out M) z) = mP (coef c out z + coef c M z)
 | [],out => by simp [jI,coef]
 | (a,x) :: M,out => by
  unfold jI
  rw [mergeTo_coef z M,jN]
  rcases xL out with rfl|⟨o,⟨b,y⟩,rfl⟩
  ·simp only [List.getLast?_nil,coef]
   by_cases h5:c x z = 0
   ·simp only [if_pos h5];unfold mP;omega
   ·simp only [if_neg h5];unfold mP;omega
  ·rw [List.getLast?_concat]
   simp only
   split
   ·rename_i h
    obtain rfl:=hc.zero y x h
    rw [List.dropLast_concat,qD0,qD0]
    simp only [coef]
    by_cases h5:c y z = 0
    ·simp only [if_pos h5];unfold mP;omega
    ·simp only [if_neg h5];congr 1;omega
   ·rw [qD0]
    simp only [coef]
    by_cases h5:c x z = 0
    ·simp only [if_pos h5];unfold mP;omega
    ·simp only [if_neg h5];unfold mP;omega
theorem yJ0:∀ (M out:List (Int × κ)),M.Pairwise (fun p q => c p.2 q.2 ≤ 0)→out.Pairwise (fun p q => c p.2 q.2 < 0)→(∀ p ∈ out,∀ q ∈ M,c p.2 q.2 ≤ 0)→(∀ q ∈ out,0 ≤ q.1∧q.1 < 10007) →
  (jI c out M).Pairwise (fun p q => c p.2 q.2 < 0)∧∀ q ∈ jI c out M,0 ≤ q.1∧q.1 < 10007
 | [],out,_,h2,_,h4 => ⟨h2,h4⟩
 | (a,x) :: M,out,h1,h2,h3,h4 => by
  rw [List.pairwise_cons] at h1
  unfold jI
  rcases xL out with rfl|⟨o,⟨b,y⟩,rfl⟩
  ·simp only [List.getLast?_nil]
   exact yJ0 M _ h1.2 (List.pairwise_singleton _ _) (fun p hp q hq => by simp at hp;subst hp;exact h1.1 q hq) (fun q hq => by simp at hq;subst hq;exact jR a)
  ·rw [List.getLast?_concat]
   simp only
   have h2':=List.pairwise_append.1 h2
   split
   ·rename_i h
    obtain rfl:=hc.zero y x h
    rw [List.dropLast_concat]
    refine yJ0 M _ h1.2 (List.pairwise_append.2 ⟨h2'.1,List.pairwise_singleton _ _,fun p hp q hq => ?_⟩) (fun p hp q hq => ?_) (fun q hq => ?_)
    ·simp at hq;subst hq;exact h2'.2.2 p hp (b,y) (by simp)
    ·rcases List.mem_append.1 hp with hp|hp
     ·exact h3 p (by simp [hp]) q (by simp [hq])
     ·simp at hp;subst hp;exact h1.1 q hq
    ·rcases List.mem_append.1 hq with hq|hq
     ·exact h4 q (by simp [hq])
     ·simp at hq;subst hq;exact jR _
   ·rename_i h
    have hyx:c y x < 0:=by
     have:=h3 (b,y) (by simp) (a,x) (by simp)
     simp only at this
     omega
    refine yJ0 M _ h1.2 (List.pairwise_append.2 ⟨h2,List.pairwise_singleton _ _,fun p hp q hq => ?_⟩) (fun p hp q hq => ?_) (fun q hq => ?_)
    ·simp at hq;subst hq
     rcases List.mem_append.1 hp with hp|hp
     ·exact hc.lt_tr (h2'.2.2 p hp (b,y) (by simp)) hyx
     ·simp at hp;subst hp;exact hyx
    ·rcases List.mem_append.1 hp with hp|hp
     ·exact h3 p hp q (by simp [hq])
     ·simp at hp;subst hp;exact h1.1 q hq
    ·rcases List.mem_append.1 hq with hq|hq
     ·exact h4 q hq
     ·simp at hq;subst hq;exact jR _
omit hc in
theorem coef_filter (z:κ) (L:List (Int × κ)):coef c (L.filter fun q => !decide (q.1 = 0)) z = coef c L z:=by
 induction L with
 | nil => rfl
 | cons q L ih =>
  rw [List.filter_cons]
  by_cases h:q.1 = 0
  ·simp only [h,decide_true,Bool.not_true,Bool.false_eq_true,if_false,ih,jN];simp
  ·simp only [h,decide_false,Bool.not_false,if_true,jN,ih]
theorem merge_sum {L S:List (Int × κ)} (hp:S.Perm L) (hs:S.Pairwise (fun p q => c p.2 q.2 ≤ 0)) (hL:∀ q ∈ L,0 ≤ q.1∧q.1 < 10007) :
  (jI c [] S).filter (fun q => !decide (q.1 = 0)) = sumS c L:=by
 obtain ⟨h1,h2⟩:=yJ0 hc S [] hs List.Pairwise.nil (fun p hp => nomatch hp) (fun q hq => nomatch hq)
 refine NfS.ext hc ⟨h1.filter _,fun q hq => ?_⟩ (vR hc hL) (fun x => ?_)
 ·rw [List.mem_filter] at hq
  have:=h2 q hq.1
  have h0:q.1 ≠ 0:=by simpa using hq.2
  omega
 ·rw [coef_filter,sumS_coef hc,mergeTo_coef hc,← coef_perm hp]
  simp [coef]
end
end
section
def thenC {α:Type} (f:α→Int) (c:α→α→Int) (a b:α):Int:=if f a = f b then c a b else f a - f b
def lexC {α:Type} (c:α→α→Int):List α→List α→Int
 | [],[] => 0
 | [],_ :: _ => -1
 | _ :: _,[] => 1
 | a :: xs,b :: bs => if c a b = 0 then lexC c xs bs else c a b
theorem thenC_cmp {α:Type} {f:α→Int} {c:α→α→Int} (h:Cmp c):Cmp (thenC f c) where
 zero a b e:=by
  unfold thenC at e
  split at e
  ·exact h.zero a b e
  ·omega
 refl a:=by unfold thenC;rw [if_pos rfl];exact h.refl a
 anti a b:=by
  unfold thenC
  by_cases e:f a = f b
  ·rw [if_pos e,if_pos e.symm];exact h.anti a b
  ·rw [if_neg e,if_neg (fun k => e k.symm)];omega
 trans a b d h1 h2:=by
  unfold thenC at h1 h2 ⊢
  split at h1 <;> split at h2 <;> split <;> first|omega|(exact h.trans a b d h1 h2)
theorem Cmp.sym0 {α:Type} {c:α→α→Int} (h:Cmp c) {a b:α} (e:c a b = 0):c b a = 0:=by rw [h.zero a b e];exact h.refl b
theorem lexC_cmp {α:Type} {c:α→α→Int} (h:Cmp c):Cmp (lexC c) where
 zero:=by
  intro a
  induction a with
  | nil => intro b e;cases b with
   | nil => rfl
   | cons y bs => simp [lexC] at e
  | cons x xs ih => intro b e;cases b with
   | nil => simp [lexC] at e
   | cons y bs =>
    unfold lexC at e
    split at e
    ·rename_i h1;rw [h.zero x y h1,ih bs e]
    ·rename_i h1;exact absurd e h1
 refl:=by
  intro a
  induction a with
  | nil => rfl
  | cons x xs ih => unfold lexC;rw [if_pos (h.refl x)];exact ih
 anti:=by
  intro a
  induction a with
  | nil => intro b;cases b <;> simp [lexC]
  | cons x xs ih => intro b;cases b with
   | nil => simp [lexC]
   | cons y bs =>
    unfold lexC
    by_cases e:c x y = 0
    ·rw [if_pos e,if_pos (h.sym0 e)];exact ih bs
    ·rw [if_neg e,if_neg (fun k => e (h.sym0 k))];exact h.anti x y
 trans:=by
  intro a
  induction a with
  | nil => intro b d _ h2;cases d with
   | nil => simp [lexC]
   | cons z ds => simp [lexC]
  | cons x xs ih => intro b d h1 h2;cases b with
   | nil => simp [lexC] at h1
   | cons y bs => cases d with
    | nil => simp [lexC] at h2
    | cons z ds =>
     unfold lexC at h1 h2 ⊢
     have l1:c x y ≤ 0:=by split at h1 <;> omega
     have l2:c y z ≤ 0:=by split at h2 <;> omega
     have l3:=h.trans x y z l1 l2
     by_cases e:c x z = 0
     ·rw [if_pos e]
      obtain rfl:=h.zero x z e
      have e1:c x y = 0:=by
       rcases Int.lt_trichotomy (c x y) 0 with k|k|k
       ·have:=(h.anti x y).1 k;omega
       ·exact k
       ·omega
      rw [if_pos e1] at h1
      rw [if_pos (h.sym0 e1)] at h2
      exact ih bs ds h1 h2
     ·rw [if_neg e];exact l3
def cmpF:List (List Int)→List (List Int)→Int:=thenC (fun f => (qX f:Int)) (thenC (fun f => (f.length:Int)) (lexC cmpT))
theorem yX:Cmp cmpF:=thenC_cmp (thenC_cmp (lexC_cmp yV))
def sgn (n:Int):Int:=if n < 0 then -1 else if n = 0 then 0 else 1
end
section
section
variable {α:Type} {c:α→α→Int} (hc:Cmp c)
include hc
theorem lexC_ins (x:α):∀ {f g:List α},f.Pairwise (fun a b => c a b ≤ 0)→g.Pairwise (fun a b => c a b ≤ 0)→f.length = g.length→lexC c f g < 0→lexC c (ins c x f) (ins c x g) < 0
 | [],[],_,_,_,h => by simp [lexC] at h
 | [],_ :: _,_,_,hl,_ => by simp at hl
 | _ :: _,[],_,_,hl,_ => by simp at hl
 | a :: f,b :: g,h1,h2,hl,h => by
  have w1:=h1
  rw [List.pairwise_cons] at h1 h2
  have hself:∀ y:α,∀ u v,lexC c (y :: u) (y :: v) = lexC c u v:=fun y u v => by show (if c y y = 0 then _ else _) = _;rw [if_pos (hc.refl y)]
  have hlt:∀ (y z:α) u v,c y z < 0→lexC c (y :: u) (z :: v) < 0:=fun y z u v hyz => by
   show (if c y z = 0 then _ else _) < 0
   rw [if_neg (by omega)];exact hyz
  by_cases hab:c a b = 0
  ·obtain rfl:=hc.zero a b hab
   have h3:lexC c f g < 0:=by rwa [hself] at h
   unfold ins
   split
   ·rw [hself,hself];exact h3
   ·rw [hself]
    exact lexC_ins x h1.2 h2.2 (by simpa using hl) h3
  ·have hab':c a b < 0:=by
    have:(if c a b = 0 then lexC c f g else c a b) < 0:=h
    rwa [if_neg hab] at this
   by_cases hxa:c x a < 0
   ·have hxb:=hc.lt_tr hxa hab'
    unfold ins
    rw [if_pos hxa,if_pos hxb,hself]
    exact hlt _ _ _ _ hab'
   ·by_cases hxb:c x b < 0
    ·unfold ins
     rw [if_neg hxa,if_pos hxb]
     have hax:=hc.le_of_not_lt hxa
     by_cases hax0:c a x = 0
     ·obtain rfl:=hc.zero a x hax0
      rw [hself]
      cases f with
      | nil => exact hlt _ _ _ _ hab'
      | cons y f =>
       unfold ins
       split
       ·exact hlt _ _ _ _ hab'
       ·rename_i hay
        have h5:=h1.1 y (by simp)
        have h6:c a y = 0:=by omega
        obtain rfl:=hc.zero a y h6
        exact hlt _ _ _ _ hab'
     ·exact hlt _ _ _ _ (by omega)
    ·unfold ins
     rw [if_neg hxa,if_neg hxb]
     exact hlt _ _ _ _ hab'
end
def mulF (f g:List (List Int)):List (List Int):=sortC cmpT (f ++ g)
theorem prime_small:∀ x < 102,2 ≤ x→10007 % x ≠ 0:=by decide +kernel
theorem prime_dvd {d:Nat} (h:d ∣ 10007):d = 1 ∨ d = 10007:=by
 obtain ⟨k,hk⟩:=h
 have hd:d ≠ 0:=by rintro rfl;omega
 have hk0:k ≠ 0:=by rintro rfl;omega
 by_cases h1:d = 1
 ·exact .inl h1
 ·by_cases h2:d < 102
  ·exact absurd (by rw [hk];exact Nat.mul_mod_right d k) (prime_small d h2 (by omega))
  ·by_cases h3:k = 1
   ·subst h3;right;omega
   ·have h4:k < 102:=by
     rcases Nat.lt_or_ge k 102 with h|h
     ·exact h
     ·have:=Nat.mul_le_mul (show 102 ≤ d by omega) h
      omega
    exact absurd (by rw [hk];exact Nat.mul_mod_left d k) (prime_small k h4 (by omega))
theorem prime_gcd (a:Nat) (ha:a < 10007) (h0:a ≠ 0):Nat.gcd 10007 a = 1:=by
 rcases prime_dvd (Nat.gcd_dvd_left 10007 a) with h|h
 ·exact h
 ·have:=Nat.le_of_dvd (by omega) (h ▸ Nat.gcd_dvd_right 10007 a)
  omega
theorem prime_mul {a b:Int} (ha:1 ≤ a∧a < 10007) (hb:1 ≤ b∧b < 10007):mP (a * b) ≠ 0:=by
 intro h
 obtain ⟨m,rfl⟩:=Int.eq_ofNat_of_zero_le (show 0 ≤ a by omega)
 obtain ⟨n,rfl⟩:=Int.eq_ofNat_of_zero_le (show 0 ≤ b by omega)
 have h1:(m * n) % 10007 = 0:=by
  unfold mP at h
  have:((m * n:Nat):Int) % 10007 = 0:=by rw [Int.natCast_mul];exact h
  omega
 have h2:10007 ∣ m * n:=Nat.dvd_of_mod_eq_zero h1
 have h3:Nat.Coprime 10007 m:=prime_gcd m (by omega) (by omega)
 have h4:=h3.dvd_of_dvd_mul_left h2
 have:=Nat.le_of_dvd (by omega) h4
 omega
theorem wV (f g:List (List Int)):(mulF f g).length = f.length + g.length:=by unfold mulF;rw [vT,List.length_append]
theorem kZ (f g:List (List Int)):qX (mulF f g) = qX f + qX g:=by
 unfold mulF;rw [wJ (yQ _)];simp [qX]
theorem mulF_comm (f g:List (List Int)):mulF f g = mulF g f:=jV0 yV (List.perm_append_comm)
theorem mulF_sorted (f g:List (List Int)):(mulF f g).Pairwise (fun a b => cmpT a b ≤ 0):=vH yV _
theorem lexC_mul:∀ (h f g:List (List Int)),f.Pairwise (fun a b => cmpT a b ≤ 0)→g.Pairwise (fun a b => cmpT a b ≤ 0)→f.length = g.length→lexC cmpT f g < 0→lexC cmpT (h.foldl (fun s x => ins cmpT x s) f) (h.foldl (fun s x => ins cmpT x s) g) < 0
 | [],_,_,_,_,_,hlt => hlt
 | x :: h,f,g,h1,h2,hl,hlt => lexC_mul h _ _ (yX0 yV x f h1) (yX0 yV x g h2) (by rw [ins_length,ins_length,hl]) (lexC_ins yV x h1 h2 hl hlt)
theorem mulF_foldl {f:List (List Int)} (h:List (List Int)) (hf:f.Pairwise (fun a b => cmpT a b ≤ 0)):mulF f h = h.foldl (fun s x => ins cmpT x s) f:=by
 unfold mulF sortC
 rw [List.foldl_append]
 congr 1
 exact xU0 yV hf
theorem cmpF_mul {f g:List (List Int)} (h:List (List Int)) (hf:f.Pairwise (fun a b => cmpT a b ≤ 0)) (hg:g.Pairwise (fun a b => cmpT a b ≤ 0)) (hlt:cmpF f g < 0):cmpF (mulF f h) (mulF g h) < 0:=by
 unfold cmpF thenC at hlt ⊢
 simp only [kZ,wV] at hlt ⊢
 by_cases h1:qX f = qX g
 ·by_cases h2:f.length = g.length
  ·rw [if_pos (by rw [h1])] at hlt ⊢
   rw [if_pos (by rw [h2])] at hlt ⊢
   rw [mulF_foldl h hf,mulF_foldl h hg]
   exact lexC_mul h f g hf hg h2 hlt
  ·rw [if_pos (by rw [h1])] at hlt ⊢
   rw [if_neg (by omega)] at hlt ⊢
   omega
 ·rw [if_neg (by omega)] at hlt ⊢
  omega
def prodL (d e:List (Int × List (List Int))):List (Int × List (List Int)):=d.flatMap fun p => e.map fun q => (mP (p.1 * q.1),mulF p.2 q.2)
def SrtF (L:List (Int × List (List Int))):Prop:=∀ q ∈ L,q.2.Pairwise fun a b => cmpT a b ≤ 0
theorem prodL_snoc (d e:List (Int × List (List Int))) (p:Int × List (List Int)):prodL (d ++ [p]) e = prodL d e ++ e.map fun q => (mP (p.1 * q.1),mulF p.2 q.2):=by
 unfold prodL;rw [List.flatMap_append];simp
theorem prod_top {d e:List (Int × List (List Int))} {p q:Int × List (List Int)} (hd:NfS cmpF (d ++ [p])) (he:NfS cmpF (e ++ [q])) (sd:SrtF (d ++ [p])) (se:SrtF (e ++ [q])) :
  mP (coef cmpF (prodL (d ++ [p]) (e ++ [q])) (mulF p.2 q.2)) = mP (p.1 * q.1):=by
 have h1:=(List.pairwise_append.1 hd.1).2.2
 have h2:=(List.pairwise_append.1 he.1).2.2
 have hC:=yX
 have hlast:∀ r ∈ e,cmpF (mulF p.2 r.2) (mulF p.2 q.2) < 0:=fun r hr => by
  rw [mulF_comm p.2 r.2,mulF_comm p.2 q.2]
  exact cmpF_mul p.2 (se r (by simp [hr])) (se q (by simp)) (h2 r hr q (by simp))
 have hfirst:coef cmpF (prodL d (e ++ [q])) (mulF p.2 q.2) = 0:=kS (fun z hz => by
  unfold prodL at hz
  rw [List.mem_flatMap] at hz
  obtain ⟨r,hr,hz⟩:=hz
  rw [List.mem_map] at hz
  obtain ⟨u,hu,rfl⟩:=hz
  have h3:cmpF (mulF r.2 u.2) (mulF p.2 u.2) < 0:=cmpF_mul u.2 (sd r (by simp [hr])) (sd p (by simp)) (h1 r hr p (by simp))
  have h4:cmpF (mulF r.2 u.2) (mulF p.2 q.2) < 0:=by
   rcases List.mem_append.1 hu with hu|hu
   ·exact hC.lt_tr h3 (hlast u hu)
   ·simp at hu;subst hu;exact h3
  show cmpF (mulF r.2 u.2) (mulF p.2 q.2) ≠ 0
  omega)
 rw [prodL_snoc,qD0,hfirst,List.map_append,qD0]
 have hmid:coef cmpF (e.map fun q => (mP (p.1 * q.1),mulF p.2 q.2)) (mulF p.2 q.2) = 0:=kS (fun z hz => by
  rw [List.mem_map] at hz
  obtain ⟨u,hu,rfl⟩:=hz
  have:=hlast u hu
  show cmpF (mulF p.2 u.2) (mulF p.2 q.2) ≠ 0
  omega)
 rw [hmid]
 show mP (0 + (0 + ((if cmpF (mulF p.2 q.2) (mulF p.2 q.2) = 0 then mP (p.1 * q.1) else 0) + 0))) = _
 rw [if_pos (hC.refl _)]
 unfold mP;omega
theorem nz_mem {κ:Type} {c:κ→κ→Int} (hc:Cmp c) {L:List (Int × κ)} {x:κ} (h:mP (coef c L x) ≠ 0):∃ q ∈ L,q.2 = x:=by
 by_cases hx:∃ q ∈ L,q.2 = x
 ·exact hx
 ·exfalso
  refine h ?_
  rw [kS (fun q hq e => hx ⟨q,hq,hc.zero _ _ e⟩)];rfl
theorem prod_deg {d e:List (Int × List (List Int))} {p q:Int × List (List Int)} (hd:NfS cmpF (d ++ [p])) (he:NfS cmpF (e ++ [q])) (sd:SrtF (d ++ [p])) (se:SrtF (e ++ [q])) :
  ∃ r ∈ sumS cmpF (prodL (d ++ [p]) (e ++ [q])),qX r.2 = qX p.2 + qX q.2:=by
 have h:mP (coef cmpF (sumS cmpF (prodL (d ++ [p]) (e ++ [q]))) (mulF p.2 q.2)) ≠ 0:=by
  rw [sumS_coef yX,prod_top hd he sd se]
  exact prime_mul (hd.2 p (by simp)) (he.2 q (by simp))
 obtain ⟨r,h1,h2⟩:=nz_mem yX h
 exact ⟨r,h1,by rw [h2,kZ]⟩
def cmpN:List (List Int)→List (List Int)→Int:=thenC (fun f => (f.length:Int)) (lexC cmpT)
theorem cmpN_eq (f g:List (List Int)):cmpN f g = if (f.length:Int) = g.length then lexC cmpT f g else (f.length:Int) - g.length:=rfl
theorem cmpF_N (f g:List (List Int)):cmpF f g = if (qX f:Int) = qX g then cmpN f g else (qX f:Int) - qX g:=rfl
end
section
theorem lexC_step {α:Type} {c:α→α→Int} {f g:List α} {k:Nat} (h1:k < f.length) (h2:k < g.length):lexC c (f.drop k) (g.drop k) = if c f[k] g[k] = 0 then lexC c (f.drop (k + 1)) (g.drop (k + 1)) else c f[k] g[k]:=by
 rw [List.drop_eq_getElem_cons h1,List.drop_eq_getElem_cons h2];rfl
theorem lexC_endL {α:Type} {c:α→α→Int} {f g:List α} {k:Nat} (h1:¬ k < f.length) (h2:k < g.length):lexC c (f.drop k) (g.drop k) = -1:=by
 rw [List.drop_eq_nil_of_le (Nat.not_lt.1 h1),List.drop_eq_getElem_cons h2];rfl
theorem lexC_endR {α:Type} {c:α→α→Int} {f g:List α} {k:Nat} (h1:k < f.length) (h2:¬ k < g.length):lexC c (f.drop k) (g.drop k) = 1:=by
 rw [List.drop_eq_getElem_cons h1,List.drop_eq_nil_of_le (Nat.not_lt.1 h2)];rfl
theorem lexC_end0 {α:Type} {c:α→α→Int} {f g:List α} {k:Nat} (h1:¬ k < f.length) (h2:¬ k < g.length):lexC c (f.drop k) (g.drop k) = 0:=by
 rw [List.drop_eq_nil_of_le (Nat.not_lt.1 h1),List.drop_eq_nil_of_le (Nat.not_lt.1 h2)];rfl
theorem c_CompareFunc (v1 v2:Value) (f g:List (List Int)) (w:World) (h1:Rd (RS (RS RI)) w [v1] f) (h2:Rd (RS (RS RI)) w [v2] g) :
  Calls Tryz.prog 181 #[v1,v2,.func (.func 119) #[] #[]] w (jB w (.int .i64 (lexC cmpT f g))):=by
 obtain ⟨oa,ca,L1⟩:=h1.lists
 obtain ⟨ob,cb,L2⟩:=h2.lists
 obtain rfl:=L1.val
 obtain rfl:=L2.val
 have m1:=L1.le;have m2:=L1.capLe;have m3:=L2.le;have m4:=L2.capLe
 unfold maxLen at m2 m4
 have HL1:=Lib.hid L1
 have HL2:=Lib.hid L2
 clear L1 L2 h1 h2
 go_enter Tryz.func181,Tryz.ntmps181
 go_wp2_with fail
 go_loop [13] (fun i => ∃ k:Nat,k ≤ f.length∧k ≤ g.length∧i = .int .i64 k∧lexC cmpT f g = lexC cmpT (f.drop k) (g.drop k)) (fun i => f.length - (intOf i).toNat)
 case atStart => exact ⟨0,Nat.zero_le _,Nat.zero_le _,rfl,by simp⟩
 case round =>
  obtain ⟨k,hk,hk2,rfl,he⟩:=hrel
  have He:=Lib.hid he
  clear he
  by_cases hlt:k < f.length
  ·obtain ⟨b1,o1,rfl,hb1,hc1⟩:=HL1.out.get hlt
   obtain ⟨oi,ci,g1,hrd1,q1,q2⟩:=hc1 k hlt
   clear hc1
   by_cases hlt2:k < g.length
   ·obtain ⟨b2,o2,rfl,hb2,hc2⟩:=HL2.out.get hlt2
    obtain ⟨oj,cj,g2,hrd2,q3,q4⟩:=hc2 k hlt2
    clear hc2
    have hs:=lexC_step (c:=cmpT) hlt hlt2
    by_cases h0:cmpT f[k] g[k] = 0
    ·rw [if_pos h0] at hs
     have hcall:=qB0 _ _ _ _ w hrd1 hrd2
     rw [h0] at hcall
     have HC:=Lib.hid hcall
     have Hs:=Lib.hid hs
     obtain ⟨x1,hx1⟩:∃ x,x = f[k].length:=⟨_,rfl⟩
     obtain ⟨x2,hx2⟩:∃ x,x = g[k].length:=⟨_,rfl⟩
     rw [← hx1] at g1 q1 HC
     rw [← hx2] at g2 q3 HC
     clear hs h0 hcall hrd1 hrd2 hx1 hx2
     go_wp2_with (go_at_call 119;refine HC.out.mono ?_;rintro e w' ⟨rfl,rfl⟩)
     go_round
     case rel => exact ⟨k + 1,by omega,by omega,by go_num,by rw [He.out,Hs.out]⟩
     case measure => simp [intOf];omega
    ·rw [if_neg h0] at hs
     have hcall:=qB0 _ _ _ _ w hrd1 hrd2
     have hb:(cmpT f[k] g[k] != 0) = true:=by simp [h0]
     obtain ⟨z,hz⟩:∃ z,z = cmpT f[k] g[k]:=⟨_,rfl⟩
     rw [← hz] at hcall hb hs
     have HC:=Lib.hid hcall
     have Hs:=Lib.hid hs
     obtain ⟨x1,hx1⟩:∃ x,x = f[k].length:=⟨_,rfl⟩
     obtain ⟨x2,hx2⟩:∃ x,x = g[k].length:=⟨_,rfl⟩
     rw [← hx1] at g1 q1 HC
     rw [← hx2] at g2 q3 HC
     clear hs h0 hcall hrd1 hrd2 hx1 hx2 hz
     go_wp2_with (go_at_call 119;refine HC.out.mono ?_;rintro e w' ⟨rfl,rfl⟩)
     go_ret
     exact ⟨by (rw [He.out,Hs.out] <;> rfl),rfl⟩
   ·have HE:=Lib.hid (lexC_endR (c:=cmpT) hlt hlt2)
    go_wp2_with fail
    go_ret
    exact ⟨by (rw [He.out,HE.out] <;> rfl),rfl⟩
  ·by_cases hlt2:k < g.length
   ·have HE:=Lib.hid (lexC_endL (c:=cmpT) hlt hlt2)
    go_wp2_with fail
    go_ret
    exact ⟨by (rw [He.out,HE.out] <;> rfl),rfl⟩
   ·have HE:=Lib.hid (lexC_end0 (c:=cmpT) hlt hlt2)
    go_wp2_with fail
    go_ret
    exact ⟨by (rw [He.out,HE.out] <;> rfl),rfl⟩
theorem xW0 (v1 v2:Value) (f g:List (List Int)) (w:World) (h1:Rd (RS (RS RI)) w [v1] f) (h2:Rd (RS (RS RI)) w [v2] g) :
  Calls Tryz.prog 121 #[v1,v2] w (jB w (.int .i64 (cmpN f g))):=by
 obtain ⟨oa,c1,e1,m1,m2⟩:=h1.val
 obtain ⟨ob,c2,e2,m3,m4⟩:=h2.val
 subst e1;subst e2
 unfold maxLen at m2 m4
 rw [cmpN_eq]
 by_cases hl:f.length = g.length
 ·have hlb:((f.length:Int) != (g.length:Int)) = false:=by simp [hl]
  have hcall:=c_CompareFunc _ _ _ _ w h1 h2
  rw [if_pos (by rw [hl])]
  have HC:=Lib.hid hcall
  clear hl hcall h1 h2
  go_enter Tryz.func121,Tryz.ntmps121
  go_wp2_with (go_at_call 181;refine HC.out.mono ?_;rintro e w' ⟨rfl,rfl⟩)
  go_ret
  exact ⟨rfl,rfl⟩
 ·have hlb:((f.length:Int) != (g.length:Int)) = true:=by simp;omega
  have hw:IntKind.i64.wrap ((f.length:Int) - (g.length:Int)) = (f.length:Int) - (g.length:Int):=IntWalk.i64_in _ (by omega)
  rw [if_neg (by omega)]
  clear h1 h2
  go_enter Tryz.func121,Tryz.ntmps121
  go_wp2_with fail
  go_ret
  exact ⟨rfl,rfl⟩
theorem jQ0 (v1 v2:Value) (f g:List (List Int)) (w:World) (h1:Rd (RS (RS RI)) w [v1] f) (h2:Rd (RS (RS RI)) w [v2] g) (hf:qX f ≤ 1000000000000000000) (hg:qX g ≤ 1000000000000000000) :
  Calls Tryz.prog 87 #[v1,v2] w (jB w (.int .i64 (cmpF f g))):=by
 have hn1:=yO0 _ _ w h1
 have hn2:=yO0 _ _ w h2
 rw [xI f hf] at hn1
 rw [xI g hg] at hn2
 have ht:=xW0 _ _ _ _ w h1 h2
 rw [cmpF_N]
 obtain ⟨p,hp⟩:∃ p,p = qX f:=⟨_,rfl⟩
 obtain ⟨q,hq⟩:∃ q,q = qX g:=⟨_,rfl⟩
 rw [← hp] at hf hn1 ⊢
 rw [← hq] at hg hn2 ⊢
 have hw:IntKind.i64.wrap ((p:Int) - (q:Int)) = (p:Int) - (q:Int):=IntWalk.i64_in _ (by omega)
 obtain ⟨Rl,hR⟩:∃ R:Value→Int→Prop,∀ v n,R v n ↔ Calls Tryz.prog 88 #[v] w (jB w (.int .i64 n)):=⟨_,fun _ _ => Iff.rfl⟩
 have r1:Rl v1 p:=(hR _ _).2 hn1
 have r2:Rl v2 q:=(hR _ _).2 hn2
 have HN:Hid (∀ v n,Rl v n→Calls Tryz.prog 88 #[v] w (jB w (.int .i64 n))):=Lib.hid (fun v n => (hR v n).1)
 have H3:=Lib.hid ht
 clear hp hq h1 h2 hn1 hn2 ht hR
 by_cases hl:(p:Int) = q
 ·have hlb:(((p:Int) - (q:Int)) != 0) = false:=by rw [hl];simp
  rw [if_pos hl]
  clear hl
  go_enter Tryz.func87,Tryz.ntmps87
  go_wp2_with (first|(go_at_call 88;refine (HN.out _ _ (by assumption)).mono ?_;rintro e w' ⟨rfl,rfl⟩)|(go_at_call 121;refine H3.out.mono ?_;rintro e w' ⟨rfl,rfl⟩))
  go_ret
  exact ⟨rfl,rfl⟩
 ·have hlb:(((p:Int) - (q:Int)) != 0) = true:=by simp;omega
  rw [if_neg hl]
  clear hl
  go_enter Tryz.func87,Tryz.ntmps87
  go_wp2_with (go_at_call 88;refine (HN.out _ _ (by assumption)).mono ?_;rintro e w' ⟨rfl,rfl⟩)
  go_ret
  exact ⟨rfl,rfl⟩
theorem lexC_in64:∀ (f g:List (List Int)),(∀ t ∈ f,t.length ≤ maxLen)→(∀ t ∈ g,t.length ≤ maxLen)→qH (lexC cmpT f g):=by
 intro f
 induction f with
 | nil => intro g _ _;cases g <;> (unfold lexC qH;omega)
 | cons x xs ih => intro g h3 h4;cases g with
  | nil => unfold lexC qH;omega
  | cons y bs =>
   unfold lexC
   split
   ·exact ih bs (fun t ht => h3 t (by simp [ht])) (fun t ht => h4 t (by simp [ht]))
   ·exact cmpT_in64 (h3 x (by simp)) (h4 y (by simp))
theorem cmpF_in64 {f g:List (List Int)} (hf:qX f ≤ 1000000000000000000) (hg:qX g ≤ 1000000000000000000) (h1:f.length ≤ maxLen) (h2:g.length ≤ maxLen) (h3:∀ t ∈ f,t.length ≤ maxLen) (h4:∀ t ∈ g,t.length ≤ maxLen):qH (cmpF f g):=by
 rw [cmpF_N,cmpN_eq]
 unfold maxLen at h1 h2
 split
 ·split
  ·exact lexC_in64 f g h3 h4
  ·unfold qH;omega
 ·unfold qH;omega
end
section
abbrev Elt:=List (Int × List (List Int))
def canT (t:List Int):Bool:=lev8 t && decide (canon t = t)
def okT (f:List (List Int)) (i:Nat):Bool:=canT (f.getD i []) && (decide (i = 0) || decide (cmpT (f.getD (i - 1) []) (f.getD i []) ≤ 0))
def forB (f:List (List Int)):Bool:=decide (qX f ≤ 8) && (List.range f.length).all (okT f)
def okP (e:Elt) (i:Nat):Bool :=
 decide (1 ≤ (e.getD i (0,[])).1) && decide ((e.getD i (0,[])).1 < 10007) && forB (e.getD i (0,[])).2 && (decide (i = 0) || decide (cmpF (e.getD (i - 1) (0,[])).2 (e.getD i (0,[])).2 < 0))
def elB (e:Elt):Bool:=decide (e.length ≤ 300) && (List.range e.length).all (okP e)
theorem wY {n:Nat} {p:Nat→Bool}:(List.range n).all p = true ↔ ∀ i < n,p i = true:=by
 rw [List.all_eq_true]
 exact ⟨fun h i hi => h i (List.mem_range.2 hi),fun h i hi => h i (List.mem_range.1 hi)⟩
theorem kW {n i:Nat} {p:Nat→Bool} (hi:i < n) (h:p i = false):(List.range n).all p = false:=by
 rcases hq:(List.range n).all p with _|_
 ·rfl
 ·rw [wY.1 hq i hi] at h;cases h
theorem yT0 {α:Type} {r:α→α→Prop} (ht:∀ a b d,r a b→r b d→r a d):∀ {l:List α},(∀ i (h:i + 1 < l.length),r l[i] l[i + 1])→l.Pairwise r
 | [],_ => List.Pairwise.nil
 | [a],_ => List.pairwise_singleton _ _
 | a :: b :: l,h => by
  have ih:=yT0 ht (l:=b :: l) (fun i hi => h (i + 1) (by simp at hi ⊢;omega))
  refine List.pairwise_cons.2 ⟨fun x hx => ?_,ih⟩
  have h0:r a b:=h 0 (by simp)
  rcases List.mem_cons.1 hx with rfl|hx
  ·exact h0
  ·exact ht a b x h0 ((List.pairwise_cons.1 ih).1 x hx)
theorem yJ {α:Type} {l:List α} {d:α} {i:Nat} (h:i < l.length):l.getD i d = l[i]:=by
 rw [List.getD_eq_getElem?_getD,List.getElem?_eq_getElem h];rfl
theorem xU {f:List (List Int)} (h:forB f = true):qX f ≤ 8∧(∀ t ∈ f,canT t = true)∧f.Pairwise fun a b => cmpT a b ≤ 0:=by
 unfold forB at h
 rw [Bool.and_eq_true,wY] at h
 refine ⟨of_decide_eq_true h.1,fun t ht => ?_,yT0 (fun a b d => yV.trans a b d) (fun i hi => ?_)⟩
 ·obtain ⟨i,hi,rfl⟩:=List.getElem_of_mem ht
  have:=h.2 i hi
  unfold okT at this
  rw [Bool.and_eq_true,yJ hi] at this
  exact this.1
 ·have:=h.2 (i + 1) hi
  unfold okT at this
  rw [Bool.and_eq_true,Bool.or_eq_true,yJ hi,Nat.add_sub_cancel,yJ (show i < f.length by omega)] at this
  rcases this.2 with h1|h1
  ·have:=of_decide_eq_true h1;omega
  ·exact of_decide_eq_true h1
theorem yP {e:Elt} (h:elB e = true):e.length ≤ 300∧NfS cmpF e∧SrtF e∧∀ p ∈ e,forB p.2 = true:=by
 unfold elB at h
 rw [Bool.and_eq_true,wY] at h
 have hall:∀ p ∈ e,(1 ≤ p.1∧p.1 < 10007)∧forB p.2 = true:=fun p hp => by
  obtain ⟨i,hi,rfl⟩:=List.getElem_of_mem hp
  have:=h.2 i hi
  unfold okP at this
  rw [yJ hi] at this
  simp only [Bool.and_eq_true,decide_eq_true_eq] at this
  exact ⟨this.1.1,this.1.2⟩
 refine ⟨of_decide_eq_true h.1,⟨yT0 (r:=fun p q:Int × List (List Int) => cmpF p.2 q.2 < 0) (fun a b d h1 h2 => yX.lt_tr h1 h2) (fun i hi => ?_),fun p hp => (hall p hp).1⟩,fun p hp => (xU (hall p hp).2).2.2,fun p hp => (hall p hp).2⟩
 have:=h.2 (i + 1) hi
 unfold okP at this
 rw [yJ hi,Nat.add_sub_cancel,yJ (show i < e.length by omega)] at this
 simp only [Bool.and_eq_true,Bool.or_eq_true,decide_eq_true_eq] at this
 rcases this.2 with h1|h1
 ·omega
 ·exact h1
theorem qH0 {κ:Type} {c:κ→κ→Int} {k:Int} {x:κ} (hk:k ≠ 0) (M:List (Int × κ)):∀ {L:List (Int × κ)},(∀ q ∈ L,0 < c x q.2)→putS c (L ++ M) k x = L ++ putS c M k x
 | [],_ => rfl
 | (a,y) :: L,h => by
  have h0:0 < c x y:=h (a,y) (by simp)
  show putS c ((a,y) :: (L ++ M)) k x = _
  conv => lhs;unfold putS
  rw [if_neg hk,if_neg (by omega),if_neg (by omega),qH0 hk M (fun q hq => h q (by simp [hq]))]
  rfl
theorem putS_zero {κ:Type} {c:κ→κ→Int} {x:κ} (L:List (Int × κ)):putS c L 0 x = L:=by
 cases L <;> simp [putS]
def degE (e:Elt):Int:=match e.getLast? with
 | none => -1
 | some p => qX p.2
def degOf (e:Elt):Int × Int:=if elB e = true then (degE e,0) else (0,1)
def limS (L:Elt):Elt × Int:=if L.length ≤ 300∧∀ p ∈ L,qX p.2 ≤ 8 then (L,0) else ([],3)
def addOf (d e:Elt):Elt × Int:=if (elB d && elB e) = true then limS (sumS cmpF (d ++ e)) else ([],1)
def sclOf (e:Elt) (k:Int):Elt × Int:=if elB e = true then (if inR k 0 10006 = true then (sumS cmpF (e.map fun p => (mP (p.1 * k),p.2)),0) else ([],2)) else ([],1)
def timOf (d e:Elt):Elt × Int:=if (elB d && elB e) = true then limS (sumS cmpF (prodL d e)) else ([],1)
end
section
theorem forB_tree' {f:List (List Int)} (h:forB f = true):(∀ t ∈ f,1 ≤ t.length)∧qX f ≤ 8:=by
 obtain ⟨h1,h2,_⟩:=xU h
 refine ⟨fun t ht => ?_,h1⟩
 have:=h2 t ht
 unfold canT at this
 rw [Bool.and_eq_true] at this
 exact (wE this.1).pos
theorem len_le_sum1:∀ f:List (List Int),(∀ t ∈ f,1 ≤ t.length)→f.length ≤ qX f
 | [],_ => by simp
 | b :: bs,h => by
  have ih:=len_le_sum1 bs (fun c hc => h c (by simp [hc]))
  have:=h b (by simp)
  simp only [qX,List.map_cons,List.sum_cons,List.length_cons] at ih ⊢
  omega
theorem jL0 {f:List (List Int)} (h:forB f = true):f.length ≤ 8:=by
 obtain ⟨h1,h2⟩:=forB_tree' h
 have:=len_le_sum1 f h1
 omega
theorem kX {f:List (List Int)} (h:forB f = true):∀ b ∈ f,qU b:=fun b hb => by
 have:=(xU h).2.1 b hb
 unfold canT at this
 rw [Bool.and_eq_true] at this
 exact wE this.1
theorem forB_can {f:List (List Int)} (h:forB f = true):∀ b ∈ f,canon b = b:=fun b hb => by
 have:=(xU h).2.1 b hb
 unfold canT at this
 rw [Bool.and_eq_true] at this
 exact of_decide_eq_true this.2
end
end Go.Proofs.YtedgfkpfhonlpaaGreat

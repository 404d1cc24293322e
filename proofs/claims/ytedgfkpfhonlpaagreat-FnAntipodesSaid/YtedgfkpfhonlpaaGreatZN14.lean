/- Lemmas (14). -/
import Derived.Laws.Concat
import Derived.Laws.Entries
import Derived.Laws.Shifts
import Derived.Laws.Small
import Derived.Laws.Strings
import Derived.Lib.AppendZeros
import Derived.WalkArith
import Derived.Test.YtedgfkpfhonlpaaGreatZN0
import Derived.Test.YtedgfkpfhonlpaaGreatZN4
import Derived.Test.YtedgfkpfhonlpaaGreatZN5
import Derived.Test.YtedgfkpfhonlpaaGreatZN6
import Derived.Test.YtedgfkpfhonlpaaGreatZN7
import Derived.Test.YtedgfkpfhonlpaaGreatZN8
import Derived.Test.YtedgfkpfhonlpaaGreatZN9
import Derived.Test.YtedgfkpfhonlpaaGreatZN10
import Derived.Test.YtedgfkpfhonlpaaGreatZN11
import Derived.Test.YtedgfkpfhonlpaaGreatZN12
import Derived.Test.YtedgfkpfhonlpaaGreatZN13
set_option maxHeartbeats 16000000
set_option maxRecDepth 100000
set_option linter.unusedSimpArgs false
set_option linter.unusedVariables false
namespace Go.Proofs.YtedgfkpfhonlpaaGreat
open Go.RowKit
section
def bstr (l:List UInt8):Value:=.string ⟨l.toArray⟩
theorem strCells_bytes (l:List UInt8):Lib.strCells ⟨l.toArray⟩ = Lib.byteCells l:=by simp [Lib.strCells,Lib.byteCells]
structure TxI (w:World) (w2:World) (lo hi:Nat) (l:List UInt8) (wr:World):Prop where
 bld:xJ 193 5 w.heap.size w.heap.size lo hi (.pointer (some ⟨w.heap.size,0,none⟩)) (Lib.byteCells l) wr
 bel:Below w.heap.size w wr
 top:hi ≤ wr.heap.size
 kept:∀ k,lo ≤ k→k < hi→wr.heap[k]? = w2.heap[k]?
theorem TxI.call {w w2 wr w':World} {lo hi:Nat} {l:List UInt8} (h:TxI w w2 lo hi l wr) (hb:Below wr.heap.size wr w'):TxI w w2 lo hi l w' :=
 ⟨h.bld.below hb,h.bel.trans (hb.mono h.bel.size),Nat.le_trans h.top hb.size,fun k h1 h2 => (hb.block k (by have:=h.top;omega)).trans (h.kept k h1 h2)⟩
theorem TxI.write {w w2 wr w':World} {lo hi:Nat} {l:List UInt8} {s:List UInt8} (h:TxI w w2 lo hi l wr) (hlo:w.heap.size < lo) (hb:BldW w.heap.size w.heap.size lo hi (Lib.byteCells l ++ Lib.strCells ⟨s.toArray⟩) wr w'):TxI w w2 lo hi (l ++ s) w':=by
 obtain ⟨h1,h2,h3,h4⟩:=hb
 rw [strCells_bytes,← Lib.byteCells_append] at h1
 exact ⟨h1,h.bel.trans h2,Nat.le_trans h.top h3,fun k k1 k2 => (h4 k k1 k2 (by have:=h.top;omega) (by omega)).trans (h.kept k k1 k2)⟩
theorem c_impl_treeText:∀ (n:Nat) (v:Value) (t:List Int) (w:World),Rd (RS RI) w [v] t→qZ t→t.length ≤ n→t.length ≤ 1000000 →
  Calls Tryz.prog 124 #[v] w (RetV w (bstr (txtF n t))):=by
 intro n
 induction n with
 | zero => intro v t w h hl hn h13;have:=hl.pos;omega
 | succ n ih =>
  intro v t w h hl hn h13
  have HL:=Lib.hid hl
  have IH:=Lib.hid ih
  have hfew:=brs_few hl
  have HLEN:=Lib.hid (txtTo_len hl hn)
  have HFL:=Lib.hid (txtF_len (n + 1) t hl hn)
  clear ih
  obtain ⟨wa,hwa⟩:∃ wa,wa = w.alloc (.cells #[.pointer none,.slice none 0 0] 193):=⟨_,rfl⟩
  have hsa:wa.heap.size = w.heap.size + 1:=by rw [hwa];simp
  have hbela:Below w.heap.size w wa:=by rw [hwa];exact (Below.refl _ _).alloc (Nat.le_refl _) _
  have hbuilt:xJ 193 5 w.heap.size w.heap.size 0 0 (.pointer none) (Lib.byteCells []) wa:=by
   rw [hwa]
   exact ⟨Nat.le_refl _,.slice none 0 0,heap_alloc_new w _,World.ownsRowF_nil _ _ _ _,by simp [Value.ownBlock],fun k hk => by simp [Value.ownBlock] at hk⟩
  have hw1:=xV0 w.heap.size w.heap.size 0 0 (.pointer none) _ ⟨#[91]⟩ wa (.inl rfl) hbuilt (by decide) (by omega) (Nat.zero_le _)
  clear hbuilt
  go_enter Tryz.func124,Tryz.ntmps124
  go_wp2_with (go_at_call 184;rw [← hwa];refine hw1.mono ?_)
  rintro e w1 ⟨rfl,hb1,bel1,hk1⟩
  have hs1:=bel1.size
  have hbel1:Below w.heap.size w w1:=hbela.trans bel1
  have hr1:=h.below hbel1 (Nat.le_refl _)
  have hbr:=xB0 v t w1 hr1 HL.out (by omega)
  have HK:=Lib.hid hk1
  have HB:=Lib.hid (xJ.ofF (hi:=w1.heap.size) hb1.toF)
  clear hr1 hw1 hb1 hk1 h
  go_wp2_with (go_at_call 103;refine hbr.mono ?_;rintro e w2 ⟨u,rfl,o1,b1⟩;obtain ⟨oa,cap,rfl,l1,l2⟩:=o1.val)
  have hsz1:=b1.size
  have hI0:TxI w w2 w1.heap.size w2.heap.size (txtTo n t 0) w2:=by
   have h1:=HB.out
   obtain ⟨q1,v1,q2,q3,q4,q5⟩:=h1
   refine ⟨xJ.below ⟨q1,v1,q2,q3,q4,fun k hk => .inl (by have:=(q3.lt k hk).2;omega)⟩ b1,hbel1.trans (b1.mono hbel1.size),Nat.le_refl _,fun k _ _ => rfl⟩
  have HO:=Lib.hid o1
  clear o1 hbr
  go_loopw [5,10] (fun _ i wr => ∃ k:Nat,k ≤ (brs t).length∧i = .int .i64 k∧TxI w w2 w1.heap.size w2.heap.size (txtTo n t k) wr) (fun _ i _ => (brs t).length - (intOf i).toNat)
  case atStart => exact ⟨0,Nat.zero_le _,rfl,hI0⟩
  case round =>
   obtain ⟨k,hk,rfl,hI⟩:=hrel
   have o2:=HO.out.frame hI.kept
   obtain ⟨oa1,cap1,L⟩:=o2.rd.lists
   have hval:=L.val
   simp only [Value.slice.injEq,true_and] at hval
   obtain ⟨rfl,rfl⟩:=hval
   by_cases hlt:k < (brs t).length
   ·obtain ⟨b,off,hoa,hb,hc⟩:=L.get hlt
    obtain ⟨oi,ci,g1,hrd,q1,q2⟩:=hc k hlt
    subst hoa
    have hmem:=List.getElem_mem hlt
    have hshort:=yN HL.out _ hmem
    have hc2:=IH.out (.slice oi (brs t)[k].length ci) (brs t)[k] wr hrd (jC HL.out _ hmem) (by omega) (by omega)
    have HN:=Lib.hid (txtTo_succ n t k hlt)
    have hlk:=HLEN.out (k + 1)
    rw [HN.out,List.length_append] at hlk
    have HI:=Lib.hid hI
    clear hI L o2 hc hrd
    go_wp2_with (go_at_call 124;refine hc2.mono ?_;rintro e w3 ⟨rfl,b2⟩)
    have hI2:=HI.out.call b2
    have hw3:=xV0 w.heap.size w.heap.size w1.heap.size w2.heap.size _ _ ⟨(txtF n (brs t)[k]).toArray⟩ w3 (.inr rfl) hI2.bld
     (by simp only [Lib.byteCells_length];show _ + (txtF n (brs t)[k]).toArray.size ≤ _;rw [List.size_toArray];omega) (by have:=hI2.bel.size;omega) hI2.top
    have HI2:=Lib.hid hI2
    clear hI2 hc2
    go_wp2_with (go_at_call 184;refine hw3.mono ?_)
    rintro e w4 ⟨rfl,hb4⟩
    have HI4:=Lib.hid (HI2.out.write (by omega) hb4)
    clear hw3 hb4
    go_wp2_with fail
    go_roundw
    case rel => exact ⟨k + 1,by omega,by go_num,by rw [HN.out];exact HI4.out⟩
    case measure => simp [intOf];omega
   ·have hke:k = (brs t).length:=by omega
    subst hke
    have hlk:=HLEN.out (brs t).length
    have hw3:=xV0 w.heap.size w.heap.size w1.heap.size w2.heap.size _ _ ⟨#[93]⟩ wr (.inr rfl) hI.bld
     (by simp only [Lib.byteCells_length];show _ + 1 ≤ _;omega) (by have:=hI.bel.size;omega) hI.top
    have HI:=Lib.hid hI
    clear hI o2 L
    go_wp2_with (go_at_call 184;refine hw3.mono ?_)
    rintro e w4 ⟨rfl,hb4⟩
    have hI4:=HI.out.write (s:=[93]) (by omega) hb4
    rw [txtTo_all] at hI4
    have hst:=c_BuilderString w.heap.size w.heap.size _ (txtF (n + 1) t) w4 hI4.bld.toF (by intro h;have:=HFL.out;rw [h] at this;simp at this;omega)
    have HI4:=Lib.hid hI4
    clear hI4 hw3 hb4
    go_wp2_with (go_at_call 185;refine hst.mono ?_)
    rintro e w5 ⟨rfl,hb5⟩
    clear hst
    go_wp2_with fail
    go_ret
    exact ⟨rfl,HI4.out.bel.trans hb5⟩
end
section
theorem AFn.valT2 {P:Program} {f:FuncId} {ds:List (List D)} {k:Nat} {xs:List (List D)} {c:Int} (h:AFn P f ds (· = [.own k xs true,.val (.int c)])):AFn P f ds (· = [.val (.sl k xs),.val (.int c)]):=by
 refine ⟨h.call,fun A w vs hA hr => (h.fn A w vs hA hr).mono ?_⟩
 rintro e w' ⟨v,rs,rfl,rfl,hb,us,G,X,rfl,hG1,hG2,hrel⟩
 obtain ⟨v1,us1,G1,G2,Y1,Y2,rfl,e1,e2,ho,⟨og,cap,F,dd,rfl,hrow,hk,e3,e4,hel⟩,hrest⟩:=hrel
 have hel:ownR k w' dd xs F:=hel
 have hv:=kS.2 ⟨og,dd,F,hrow,hel,rfl⟩
 obtain ⟨v2,us2,G3,G4,Y3,Y4,rfl,f1,f2,ho2,⟨hv2,f3,f4⟩,hend⟩:=hrest
 have hend:us2 = []∧G4 = []∧Y4 = []:=hend
 obtain ⟨rfl,rfl,rfl⟩:=hend
 refine ⟨_,_,rfl,rfl,hb,[_,_],[],[],rfl,List.nodup_nil,(fun b hb => nomatch hb),_,[_],[],[],[],[],rfl,rfl,rfl,ho,⟨?_,rfl,rfl⟩,_,[],[],[],[],[],rfl,rfl,rfl,ho2,⟨jJ.2 (jJ.1 hv2),rfl,rfl⟩,rfl,rfl,rfl⟩
 exact hv.rd.mono (fun b hb _ => ⟨.inr (hG2 b (by
  rw [e1,e3]
  exact List.mem_append_left _ (by simpa using hb))),by simp⟩)
theorem AFn.valF2 {P:Program} {f:FuncId} {ds:List (List D)} {k:Nat} {xs:List (List D)} {c:Int} (h:AFn P f ds (· = [.own k xs false,.val (.int c)])):AFn P f ds (· = [.val (.sl k xs),.val (.int c)]):=by
 refine ⟨h.call,fun A w vs hA hr => (h.fn A w vs hA hr).mono ?_⟩
 rintro e w' ⟨v,rs,rfl,rfl,hb,us,G,X,rfl,hG1,hG2,hrel⟩
 obtain ⟨v1,us1,G1,G2,Y1,Y2,rfl,e1,e2,ho,⟨og,cap,F,dd,rfl,hrow,hk,e3,e4,hel⟩,hrest⟩:=hrel
 obtain ⟨v2,us2,G3,G4,Y3,Y4,rfl,f1,f2,ho2,⟨hv2,f3,f4⟩,hend⟩:=hrest
 have hend:us2 = []∧G4 = []∧Y4 = []:=hend
 obtain ⟨rfl,rfl,rfl⟩:=hend
 have hel:rdR k (fun b => (A b ∨ w.heap.size ≤ b)∧b ∉ X) w' dd xs:=hel
 refine ⟨_,_,rfl,rfl,hb,[_,_],[],[],rfl,List.nodup_nil,(fun b hb => nomatch hb),_,[_],[],[],[],[],rfl,rfl,rfl,ho,⟨?_,rfl,rfl⟩,_,[],[],[],[],[],rfl,rfl,rfl,ho2,⟨jJ.2 (jJ.1 hv2),rfl,rfl⟩,rfl,rfl,rfl⟩
 obtain ⟨oa,c',e,h1,h2,h3,h4⟩:=wI hrow
 refine xQ.2 ⟨oa,c',dd,e,h1,h2,h3,hel.mono (fun b hb _ => ⟨hb.1,by simp⟩),?_⟩
 cases og with
 | none =>
  left
  have:=hrow.len0
  exact List.eq_nil_of_length_eq_zero (by rw [hrow.1,this,Nat.zero_mul])
 | some g =>
  refine .inr ⟨g,0,h4,⟨.inr (hG2 g (by rw [e1,e3];simp)),by simp⟩,fun j u hj => ?_⟩
  rw [Nat.zero_add]
  exact hrow.cells j u hj
theorem AFn.valB2 {P:Program} {f:FuncId} {ds:List (List D)} {k:Nat} {xs:List (List D)} {c:Int} {b:Bool} (h:AFn P f ds (· = [.own k xs b,.val (.int c)])):AFn P f ds (· = [.val (.sl k xs),.val (.int c)]):=by
 cases b with
 | true => exact h.valT2
 | false => exact h.valF2
end
section
theorem AFn.of_v {P:Program} {f:FuncId} {ds:List (List D)} {d:D} {v:Value} (eg:∀ args w,(callFunc f args).run P w = .ok (.enter f args) w) (hd:∀ A w,rdV A w v d)
  (h:∀ (w:World) (A:Nat→Prop) vs,jX A w ds vs→Calls P f vs.toArray w (RetV w v)):AFn P f ds (· = [.val d]):=by
 refine ⟨eg,fun A w vs hA hv => (h w A vs hv).mono ?_⟩
 rintro e w' ⟨rfl,hb⟩
 exact ⟨v,_,rfl,rfl,hb,[v],[],[],rfl,List.nodup_nil,by simp,v,[],[],[],[],[],rfl,rfl,rfl,(hd (fun _ => True) w).one,⟨hd _ _,rfl,rfl⟩,rfl,rfl,rfl⟩
theorem tab_one {A:Nat→Prop} {w:World} {t:List Int} {vs:List Value} (h:jX A w [eL t] vs):∃ v,vs = [v]∧Rd (RS RI) w [v] t:=by
 obtain ⟨v1,_,e1,h1,e2⟩:=h
 have e2:_ = []:=e2
 subst e2;subst e1
 exact ⟨v1,rfl,Rd.of (rd1 h1)⟩
end
section
section
variable {P:Program} {α:Type} {R:Rep α} {e:α→List D}
end
theorem a_treeText (n:Nat) (t:List Int) (h:qZ t) (hn:t.length ≤ n) (h6:t.length ≤ 1000000):AFn Tryz.prog 124 [eL t] (· = [.val (.raw (bstr (txtF n t)))]) :=
 AFn.of_v (enters_of Tryz.func124 rfl rfl) (fun _ _ => yJ.2 ⟨rfl,rfl⟩) (fun w A vs h' => by
  obtain ⟨v,rfl,hr⟩:=tab_one h'
  exact c_impl_treeText n v t w hr h hn h6)
end
section
theorem jG0:∀ (a b:List UInt8) (st:List (List Int) × Nat),rfRun (a ++ b) st = (rfRun a st).bind (rfRun b)
 | [],b,st => rfl
 | c :: a,b,st => by
  show (kQ st c).bind (rfRun (a ++ b)) = ((kQ st c).bind (rfRun a)).bind (rfRun b)
  cases h:kQ st c with
  | none => rfl
  | some y => exact jG0 a b y
theorem rf_open (out:List (List Int)) (cur:List Int) (d:Nat) (h:0 < d):kQ (out ++ [cur],d) 91 = some (out ++ [cur ++ [(d:Int)]],d + 1):=by
 unfold kQ
 rw [if_pos (by decide)]
 show some (if d = 0 then _ else _) = _
 rw [if_neg (by omega)]
 simp
theorem rf_close (st:List (List Int)) (d:Nat):kQ (st,d + 1) 93 = some (st,d):=by
 unfold kQ
 rw [if_neg (by decide),if_pos ⟨by decide,Nat.succ_pos d⟩]
 rfl
theorem rf_list {f:List Int→List UInt8} (e:Nat):∀ (bs:List (List Int)),(∀ b ∈ bs,∀ out cur,rfRun (f b) (out ++ [cur],e) = some (out ++ [cur ++ b.map (· + (e:Int))],e)) →
  ∀ out cur,rfRun (bs.flatMap f) (out ++ [cur],e) = some (out ++ [cur ++ bs.flatMap fun b => b.map (· + (e:Int))],e)
 | [],_,out,cur => by simp [rfRun]
 | b :: bs,h,out,cur => by
  rw [List.flatMap_cons,jG0,h b (by simp)]
  show rfRun (bs.flatMap f) (out ++ [cur ++ b.map (· + (e:Int))],e) = _
  rw [rf_list e bs (fun x hx => h x (by simp [hx]))]
  rw [List.flatMap_cons,List.append_assoc]
theorem rf_in:∀ (n:Nat) (t:List Int),qZ t→t.length ≤ n→∀ (d:Nat),0 < d→∀ out cur,rfRun (txtF n t) (out ++ [cur],d) = some (out ++ [cur ++ t.map (· + (d:Int))],d)
 | 0,t,h,hn,d,_,out,cur => by have:=h.pos;omega
 | n + 1,t,h,hn,d,hd,out,cur => by
  show rfRun (91 :: ((brs t).flatMap (txtF n)) ++ [93]) _ = _
  rw [List.cons_append]
  show (kQ (out ++ [cur],d) 91).bind (rfRun ((brs t).flatMap (txtF n) ++ [93])) = _
  rw [rf_open out cur d hd]
  show rfRun ((brs t).flatMap (txtF n) ++ [93]) (out ++ [cur ++ [(d:Int)]],d + 1) = _
  rw [jG0,rf_list (d + 1) (brs t) (fun b hb o c => rf_in n b (jC h b hb) (by have:=yN h b hb;omega) (d + 1) (Nat.succ_pos d) o c)]
  show (kQ (_,d + 1) 93).bind (rfRun []) = _
  rw [rf_close]
  show some (_,d) = _
  have e:t = qB (brs t):=(jS0 h).symm
  congr 4
  rw [List.append_assoc]
  congr 1
  conv => rhs;rw [e]
  unfold qB
  simp only [List.map_cons,List.map_flatMap,List.map_map,List.singleton_append,Int.zero_add]
  congr 2
  funext b
  apply List.map_congr_left
  intro x _
  simp only [Function.comp_def]
  omega
theorem rf_top (n:Nat) (t:List Int) (h:qZ t) (hn:t.length ≤ n + 1) (out:List (List Int)):rfRun (txtF (n + 1) t) (out,0) = some (out ++ [t],0):=by
 show rfRun (91 :: ((brs t).flatMap (txtF n)) ++ [93]) _ = _
 rw [List.cons_append]
 show (kQ (out,0) 91).bind (rfRun ((brs t).flatMap (txtF n) ++ [93])) = _
 show rfRun ((brs t).flatMap (txtF n) ++ [93]) (out ++ [[0]],1) = _
 rw [jG0,rf_list 1 (brs t) (fun b hb o c => rf_in n b (jC h b hb) (by have:=yN h b hb;omega) 1 (by decide) o c)]
 show (kQ (_,0 + 1) 93).bind (rfRun []) = _
 rw [rf_close]
 show some (_,0) = _
 congr 4
 conv => rhs;rw [← jS0 h]
 rfl
theorem rf_show (n:Nat):∀ (L:List (List Int)),(∀ t ∈ L,qZ t∧t.length ≤ n + 1)→∀ out,rfRun (L.flatMap (txtF (n + 1))) (out,0) = some (out ++ L,0)
 | [],_,out => by simp [rfRun]
 | t :: L,h,out => by
  rw [List.flatMap_cons,jG0,rf_top n t (h t (by simp)).1 (h t (by simp)).2]
  show rfRun (L.flatMap (txtF (n + 1))) (out ++ [t],0) = _
  rw [rf_show n L (fun x hx => h x (by simp [hx])),List.append_assoc]
  rfl
inductive Lin:List Int→Nat→List UInt8→Prop
 | nil:Lin [] 0 []
 | opn {l d s}:Lin l d s→Lin (l ++ [(d:Int)]) (d + 1) (s ++ [91])
 | cls {l d s}:Lin l (d + 1) s→Lin l d (s ++ [93])
end
section
def rowA:Obj→Option (List AC)
 | .lit _ [r] => some r
 | .row _ [r] _ => some (r.map .val)
 | _ => none
section
variable {P:Program} {cfg:Cfg} {M:Nat→Prop} {ops:Array Oper} {s s':St} {w0:W0} {w:World} {Ok:Nat→Prop} {N:Nat} {σ:Asg} {a:Act} {fs:List Fr} {Q:Exit→St→Prop} {T:Tab P} {H:List (Nat × Obj)}
theorem rdCs.toA:∀ {x:List D} {us:List Value},rdCs (Zn σ H w) w us x→relCs σ H w (x.map .val) us
 | [],us,h => List.eq_nil_of_length_eq_zero (by rw [h.len];rfl)
 | y :: x,us,h => by
  obtain ⟨u,us',rfl,h3,h4⟩:=h.cons_inv
  exact ⟨u,us',rfl,h3.one,h3,rdCs.toA h4⟩
theorem relCs.len:∀ {x:List AC} {us:List Value},relCs σ H w x us→us.length = x.length
 | [],_,h => by rw [show _ = [] from h];rfl
 | y :: x,_,⟨u,us',e,_,_,h⟩ => by rw [e,List.length_cons,List.length_cons,relCs.len h]
theorem Sim.rowA (h:Sim w0 Ok N σ s a w) {key:Nat} {o:Obj} (hk:look key s.heap = some o) {r:List AC} (hr:rowA o = some r) :
  o.len = 1∧0 < o.k∧∃ us,us.length = o.k∧Row w (slv (σ.g key) o.len (σ.cap key)) o.k o.len us (σ.g key)∧relCs σ s.heap w r us:=by
 unfold Go.Proofs.YtedgfkpfhonlpaaGreat.rowA at hr
 split at hr
 ·rename_i k r'
  cases hr
  obtain ⟨ds,hrow,hkp,hel⟩:=(h.rows key _ hk).row
  obtain ⟨c,d,e,hl,hc,hd⟩:=(show relRs σ s.heap w k [r] ds from hel)
  have hd:d = []:=hd
  subst hd
  rw [List.append_nil] at e
  subst e
  exact ⟨rfl,hkp,ds,hl,hrow,hc⟩
 ·rename_i k r' d
  cases hr
  obtain ⟨ds,hrow,hkp,hel⟩:=RowOK.rd h.ok1 h.rows h.disj hk
  obtain ⟨c,e,e1,hl,hcl,hc,he⟩:=hel.cons_inv
  have he:e = []:=by
   have h1:=hrow.1
   rw [e1,List.length_append,hcl] at h1
   simp only [List.length_cons,List.length_nil] at h1
   exact List.eq_nil_of_length_eq_zero (by omega)
  subst he
  rw [List.append_nil] at e1
  subst e1
  exact ⟨rfl,hkp,ds,hcl,hrow,hc.toA⟩
 ·cases hr
theorem relCs.toD:∀ {x:List D} {us:List Value},relCs σ H w (x.map .val) us→rdCs (Zn σ H w) w us x
 | [],us,h => by rw [show us = [] from h];exact rdCs.nil
 | y :: x,_,⟨u,us',e,_,h2,h⟩ => by rw [e];exact rdCs.cons h2 (relCs.toD h)
theorem Sim.litRow (h:Sim w0 Ok N σ s a w) {key k:Nat} {r:List D} (hk:look key s.heap = some (.lit k [r.map .val])):Sim w0 Ok N σ ⟨s.regs,insR key (.row k [r] false) s.heap⟩ a w:=by
 obtain ⟨_,hkp,us,hul,_,hus⟩:=h.rowA hk (r:=r.map .val) rfl
 have hrl:r.length = k:=by have:=hus.len;rw [List.length_map] at this;rw [← this];exact hul
 refine h.setObj hk rfl rfl rfl (fun H' hZ hst ds hrow hel => ?_)
 obtain ⟨c,d,e,hl,hc,hd⟩:=(show relRs σ s.heap w k [r.map .val] ds from hel)
 have hd:d = []:=hd
 subst hd
 rw [List.append_nil] at e
 subst e
 exact rdR.single hkp hrl (hc.toD.mono (fun b hb _ => hZ b hb))
theorem qJ.litRow {c:Code} (key:Nat) {k:Nat} (r:List D) (hk:look key s.heap = some (.lit k [r.map .val])) (h:qJ P cfg M c fs Q ⟨s.regs,insR key (.row k [r] false) s.heap⟩):qJ P cfg M c fs Q s:=by
 intro w0 Ok σ a w Q' hM hS hQ
 exact h w0 Ok σ a w Q' hM (hS.litRow hk) hQ
structure AFnS (P:Program) (f:FuncId) (ds:List (List D)) (cs:List D):Prop where
 call:∀ args w,(callFunc f args).run P w = .ok (.enter f args) w
 fn:∀ (A:Nat→Prop) w vs,(∀ b,A b→b < w.heap.size)→jX A w ds vs→Calls P f vs.toArray w (fun e w' => ∃ us,e = .returned (.agg us.toArray)∧Below w.heap.size w w'∧rdCs (fun b => A b ∨ w.heap.size ≤ b) w' us cs)
end
end
section
theorem qC (n:Nat) {H:HidC}:CfgOK Tryz.prog (cfg n H):=cfg_okH n H
theorem AFnH.of_runs1 {P:Program} {cfg:Cfg} (C:CfgOK P cfg) {f:FuncId} {fn:Func} {c:Code} (hf:P.funcs[f]? = some fn) (hb:fn.body = some c) (hname:(fn.name == "runtime.NumGoroutine") = false) (hN:fn.ntmps = cfg.N) {ds:List (List D)} (hd:ds.length ≤ fn.ntmps) {y:D}
  (h:∀ M,qA P cfg M c (Ends cfg M fn (· = [.val y])) ⟨qU 0 ds,[]⟩):AFnH cfg.hd P f ds [y]:=AFnH.of_runs C hf hb hname hN hd (ys:=[y]) h
def KA (k:Value) (d:D):Prop:=∃ t,qZ t∧canon t = t∧t.length ≤ 8∧k = bstr (txtF 8 t)∧d = .sl 2 ((ant1 t).map ePt)
theorem KA.of {t:List Int} {d:D} (h:qZ t) (hl:t.length ≤ 8) (hk:KA (bstr (txtF 8 t)) d):d = .sl 2 ((ant1 t).map ePt):=by
 obtain ⟨u,hu,_,hul,e,rfl⟩:=hk
 have e1:txtF 8 t = txtF 8 u:=by
  unfold bstr at e
  injection e with e
  injection e with e
  have:=congrArg Array.toList e
  simpa using this
 have a:=rf_show 7 [t] (fun x hx => by obtain rfl:=List.mem_singleton.1 hx;exact ⟨h,hl⟩) []
 have b:=rf_show 7 [u] (fun x hx => by obtain rfl:=List.mem_singleton.1 hx;exact ⟨hu,hul⟩) []
 simp only [List.flatMap_cons,List.flatMap_nil,List.append_nil,List.nil_append] at a b
 rw [e1,b] at a
 injection a with a
 injection a with a _
 injection a with a _
 rw [a]
@[reducible] def hidA (r:Nat):HidC:=hidM KA (fun _ => False) r
def OfT (n:Nat):Prop:=∀ r t,qZ t→canon t = t→t.length ≤ n→AFnH (hidA r) Tryz.prog 140 [[.raw (.map (some r))],eL t] [.sl 2 ((ant1 t).map ePt)]
theorem a_ofForest (n:Nat) (hn:n ≤ 8) (ih:OfT n) (r:Nat) (f:List (List Int)) (hf:∀ t ∈ f,qZ t∧canon t = t∧t.length ≤ n) (hs:qQ f ≤ 8) :
  AFnH (hidA r) Tryz.prog 76 [[.raw (.map (some r))],[.sl 1 (f.map eL)]] [.sl 2 ((ant f).map ePt)]:=by
 obtain ⟨H,hH⟩:∃ H,H = hidA r:=⟨_,rfl⟩
 have hfl:f.length ≤ 8:=by
  refine Nat.le_trans ?_ hs
  clear hs
  induction f with
  | nil => exact Nat.le_refl _
  | cons t f ih' =>
   have a1:=(hf t (by simp)).1.pos
   have a2:=ih' fun x hx => hf x (by simp [hx])
   have a3:qQ (t :: f) = t.length + qQ f:=by simp [qQ]
   rw [List.length_cons];omega
 have htk:∀ i,qQ (f.take i) ≤ 8:=fun i => by
  have:qQ (f.take i) + qQ (f.drop i) = qQ f:=by rw [← kE,List.take_append_drop]
  omega
 have hgd:∀ i,GdA (qQ (f.take i)) (antF ant1 (f.take i)):=fun i => by
  have:=GdA.fold (g:=ant1) (f:=f.take i) (out:=[(1,[])]) (m:=0) (fun x hx => kA x.length (hf x (List.mem_of_mem_take hx)).1 (Nat.le_refl _)) wQ
  rw [Nat.zero_add] at this
  exact this
 have hln:∀ i,(antF ant1 (f.take i)).length ≤ 300:=fun i => by
  have h1:=vJ (g:=ant1) (f.take i) [(1,[])] (fun x hx => kT x.length x (hf x (List.mem_of_mem_take hx)).1 (hf x (List.mem_of_mem_take hx)).2.1 (Nat.le_refl _))
  have h2:=eF_le (f.take i)
  have h3:2 ^ eF (f.take i) ≤ 2 ^ 8:=Nat.pow_le_pow_right (by decide) (by have:=htk i;omega)
  have h4:([(1,[])]:Elt).length = 1:=rfl
  rw [h4,Nat.one_mul] at h1
  exact Nat.le_trans h1 (by omega)
 rw [← hH]
 refine AFnH.of_runs1 (cfg_okH 23 H) Tryz.func76 rfl rfl rfl gz ?_
 have hres:Tryz.f76.results.toList = [.tmp 4]:=rfl
 have hrts:Tryz.f76.resultTypes.toList = [50]:=rfl
 simp only [qU,qT,eL,eI,eLL,eB,Nat.zero_add,Nat.reduceAdd]
 intro M
 refine qJ.of ?_
 refine gw122 ?_
 refine qJ.frz 5 ?_
 refine qJ.fits (s0:=⟨[(0,.c (.val (.raw (.map (some r))))),(5,.c (.val (.sl 2 [[.int 1,.sl 1 []]]))),(10,.c (.val (.sl 1 (f.map eL)))),(11,.c (.val (.int f.length))),(12,.c (.val (.int 0)))],[]⟩) ?_ ?_
 ·exact gw123
 refine qJ.loop (β:=Nat) (γ:=Unit) (fun i => ⟨[(0,.c (.val (.raw (.map (some r))))),(5,.c (.val (.sl 2 ((antF ant1 (f.take i)).map ePt)))),(10,.c (.val (.sl 1 (f.map eL)))),(11,.c (.val (.int f.length))),(12,.c (.val (.int i)))],[]⟩) (fun i => i ≤ f.length) (fun i => f.length - i)
  (fun _ => ⟨[(5,.c (.val (.sl 2 ((ant f).map ePt))))],[]⟩) (fun _ => True) 0 (Nat.zero_le _) ?_ ?_ ?_
 ·exact gw124 (show antF ant1 [] = [(1,[])] from rfl)
 ·intro i hi
  have hi:i ≤ f.length:=hi
  have hw:=qD (n:=i) (by omega)
  by_cases h:i < f.length
  ·have i1:((i:Int) < (f.length:Int)) = True:=eq_true (by omega)
   have i2:((0:Int) ≤ (i:Int)) = True:=eq_true (by omega)
   obtain ⟨t,ht⟩:∃ t,t = f[i]:=⟨_,rfl⟩
   obtain ⟨t1,t2,t3⟩:=hf f[i] (List.getElem_mem _)
   rw [← ht] at t1 t2 t3
   have hg:(f.map eL)[i]? = some [.sl 1 (t.map eI)]:=by rw [qE h,ht];rfl
   have hle:(f.map eL).length = f.length:=List.length_map _
   have hst:antF ant1 (f.take (i + 1)) = sumS cmpF (prodL (antF ant1 (f.take i)) (ant1 t)):=by
    rw [ht];unfold antF
    rw [List.take_succ_eq_append_getElem h,List.foldl_append];rfl
   have hof:=ih r t t1 t2 t3
   rw [← hH] at hof
   have hl1:(ant1 t).length ≤ 300:=by
    have h1:=kT t.length t t1 t2 (Nat.le_refl _)
    have h2:2 ^ (t.length - 1) ≤ 2 ^ 8:=Nat.pow_le_pow_right (by decide) (by omega)
    exact Nat.le_trans h1 (by omega)
   have hpr:=a_products (antF ant1 (f.take i)) (ant1 t) ((hgd i).sz (htk i)) ((kA t.length t1 (Nat.le_refl _)).sz (by omega)) (hln i) hl1
   rw [← hst] at hpr
   have hpr:=AFn.valT hpr
   refine gw125 (Y5 i1 i2 hg hw hle) ?_
   ((refine gw88 (kk 13) Y0 ?_);(with_reducible refine qJ.regCut (qC 23) Tab.none 3 (s1:=?_) ?_ ?_);rotate_left 1;(focus ((with_reducible refine QW ?_);simp only [Zg,Zi,seval];with_reducible rfl));simp only [List.toList_toArray,List.drop_succ_cons,List.drop_zero])
   refine qW.callH (qC 23) (d:=19) (g:=140) (ds:=[[.raw (.map (some r))],eL t]) (by rfl) hof ?_
   (refine qW.opsT (qC 23) (T:=Tab.none.at' 83 hpr) (s':=?_) ?_ ?_;rotate_left 1;focus (simp only [Zg,Zi,seval];with_reducible rfl))
   refine gw126 hw ?_
   refine qY.on (i + 1) ⟨h,by omega⟩ ?_
   exact gw6 Y0
  ·have i1:((i:Int) < (f.length:Int)) = False:=eq_false (by omega)
   obtain rfl:i = f.length:=by omega
   rw [List.take_length]
   refine gw126 i1 ?_
   refine qY.out () trivial ?_
   exact gw6 Y0
 ·rintro _ _
  refine gw126 Y0 ?_
  exact gw8
theorem gd_len {L:Elt} {m:Nat} (h:GdA m L):∀ q ∈ L,q.2.length ≤ qQ q.2:=fun q hq => by
 obtain ⟨_,h2,_⟩:=h q hq
 generalize q.2 = f at h2
 induction f with
 | nil => exact Nat.le_refl _
 | cons t f ih =>
  have a1:=h2 t (by simp)
  have a2:=ih fun x hx => h2 x (by simp [hx])
  have a3:qQ (t :: f) = t.length + qQ f:=by simp [qQ]
  rw [List.length_cons]
  omega
theorem cutE_ant1 {t:List Int} (h:qZ t) {m:Nat} (hm:t.length = m + 1):∀ c ∈ cutsL t,cutE (antT m) c = cutE ant1 c:=fun c hc => by
 obtain ⟨z,hz,rfl,hg,_,h1⟩:=wY h hc
 unfold cutE
 rcases h1 with ⟨_,h1⟩|⟨h1,h2⟩
 ·rw [if_pos h1,if_pos h1]
 ·rw [if_neg h1,if_neg h1,antF_congr fun x hx => ?_]
  have hx':x ∈ z.1.1:=hx
  have a1:=jK hx'
  have a2:=hg.2
  have a3:qQ z.1.2 = (cutS z).1.2.length:=by rw [h2];simp [qQ]
  have a4:=hg.1 (cutS z).1.2 (by rw [h2];simp)
  have a5:=a4.1.pos
  exact antT_fuel _ _ (hg.1 x (by simp [hx'])).1 (by omega) (Nat.le_refl _)
theorem ant1_cuts {t:List Int} (h:qZ t):ant1 t = sumS cmpF ((cutsL t).flatMap (cutE ant1)):=by
 have hp:=h.pos
 obtain ⟨m,hm⟩:∃ m,t.length = m + 1:=⟨t.length - 1,by omega⟩
 have e0:ant1 t = sumS cmpF ((cutsL t).flatMap (cutE (antT m))):=by unfold ant1;rw [hm];rfl
 rw [e0]
 congr 1
 have e:=cutE_ant1 h hm
 generalize cutsL t = C at e
 induction C with
 | nil => rfl
 | cons c C ihC => rw [List.flatMap_cons,List.flatMap_cons,e c (by simp),ihC fun x hx => e x (by simp [hx])]
theorem a_ofTree (n:Nat) (hn:n < 8) (ih:OfT n) (r:Nat) (t:List Int) (h:qZ t) (hc:canon t = t) (hl:t.length ≤ n + 1) :
  AFnH (hidA r) Tryz.prog 140 [[.raw (.map (some r))],eL t] [.sl 2 ((ant1 t).map ePt)]:=by
 obtain ⟨H,hH⟩:∃ H,H = hidA r:=⟨_,rfl⟩
 have htt:=a_treeText 8 t h (by omega) (by omega)
 have hcu:=AFn.valT (a_cutsOf t h (by omega))
 obtain ⟨C,hC⟩:∃ C,C = cutsL t:=⟨_,rfl⟩
 have hCl:C.length ≤ 256:=by
  have h1:=kX _ (Nat.le_refl _) h
  have h2:2 ^ t.length ≤ 2 ^ 8:=Nat.pow_le_pow_right (by decide) (by omega)
  have h3:=(yY (split t)).len
  rw [List.length_map] at h3
  rw [hC];unfold cutsL;rw [List.length_map]
  omega
 rw [← hC] at hcu
 simp only [eL] at htt hcu
 have hcut:∀ c ∈ cutsL t,(1 ≤ c.2∧c.2 ≤ 256)∧(c.1.2 ≠ []→(∀ x ∈ c.1.1,qZ x∧canon x = x∧x.length ≤ n)∧qQ c.1.1 ≤ 8∧(cutE ant1 c).length ≤ 256∧(1 ≤ c.1.2.length∧c.1.2.length ≤ 8)):=fun c hcm => by
  obtain ⟨z,hz,rfl,hg,hz1,h1⟩:=wY h hcm
  have h2:=(kI (xI _ (Nat.le_refl _) h) z hz).2.1
  have h3:=kX _ (Nat.le_refl _) h
  have h4:2 ^ t.length ≤ 2 ^ 8:=Nat.pow_le_pow_right (by decide) (by omega)
  refine ⟨⟨hz1,Int.le_trans h2 (by omega)⟩,fun htn => ?_⟩
  rcases h1 with ⟨_,h1⟩|⟨_,h1⟩
  ·exact absurd h1 htn
  ·have a2:=hg.2
   have a3:qQ z.1.2 = (cutS z).1.2.length:=by rw [h1];simp [qQ]
   have a4:=hg.1 (cutS z).1.2 (by rw [h1];simp)
   have a5:=a4.1.pos
   have hx1:∀ x ∈ z.1.1,qZ x∧canon x = x∧x.length ≤ n:=fun x hx => by
    have b1:=hg.1 x (by simp [hx])
    have b2:=jK hx
    exact ⟨b1.1,b1.2,by omega⟩
   refine ⟨hx1,?_,?_,a5,by omega⟩
   ·show qQ z.1.1 ≤ 8
    omega
   ·unfold cutE
    rw [if_neg htn]
    refine Nat.le_trans (wW _) ?_
    rw [prodLn,List.length_singleton,Nat.mul_one]
    refine Nat.le_trans (vJ (cutS z).1.1 [(1,[])] fun x hx => kT x.length x (hx1 x hx).1 (hx1 x hx).2.1 (Nat.le_refl _)) ?_
    have e1:eF (cutS z).1.1 ≤ qQ z.1.1:=eF_le _
    have e2:2 ^ eF (cutS z).1.1 ≤ 2 ^ 8:=Nat.pow_le_pow_right (by decide) (by omega)
    rw [List.length_singleton,Nat.one_mul]
    exact e2
 have hKl:∀ i,((C.take i).flatMap (cutE ant1)).length ≤ 256 * 256:=fun i => by
  have key:∀ (L:List Cu),(∀ c ∈ L,(cutE ant1 c).length ≤ 256)→(L.flatMap (cutE ant1)).length ≤ 256 * L.length:=by
   intro L
   induction L with
   | nil => intro _;simp
   | cons c L ihL =>
    intro hL
    rw [List.flatMap_cons,List.length_append,List.length_cons]
    have a1:=hL c (by simp)
    have a2:=ihL fun x hx => hL x (by simp [hx])
    omega
  refine Nat.le_trans (key _ fun c hcm => ?_) (Nat.mul_le_mul_left _ (by rw [List.length_take];omega))
  have hcm:c ∈ cutsL t:=by rw [← hC];exact List.mem_of_mem_take hcm
  by_cases htn:c.1.2 = []
  ·unfold cutE;rw [if_pos htn];simp
  ·exact ((hcut c hcm).2 htn).2.2.1
 have hKA:KA (bstr (txtF 8 t)) (.sl 2 ((ant1 t).map ePt)):=⟨t,h,hc,by omega,rfl,rfl⟩
 rw [← hH]
 refine AFnH.of_runs1 (cfg_okH 59 H) Tryz.func140 rfl rfl rfl gz ?_
 have hres:Tryz.f140.results.toList = [.tmp 4]:=rfl
 have hrts:Tryz.f140.resultTypes.toList = [50]:=rfl
 simp only [qU,qT,eL,eI,eLL,eB,Nat.zero_add,Nat.reduceAdd]
 intro M
 refine qJ.of ?_
 repeat' (first|with_reducible (first|refine Q1 ?_|refine Q2 ?_|refine Q3 ?_|refine Q4 ?_|refine Q5 ?_|refine Q6 ?_|refine Q7 ?_|refine Q8 ?_|refine Q9 ?_|refine Qa ?_|refine Qb ?_|refine Qc ?_|refine Qd ?_|refine Qe ?_|refine Qf ?_|refine QO ?_|refine QV 27 ?_|refine QY 27 ?_)|with_reducible ((first|apply QS (qC 59) (Tab.none.at' 124 htt)|apply QC);refine QW ?_;simp only [Zg,Zi,seval];rfl)|with_reducible (apply QD (qC 59) (Tab.none.at' 124 htt) qK;(refine QW ?_;simp only [Zg,Zd,Zi,seval];rfl);refine QK ?_;simp only [Zk];kernel_rfl))
 ((repeat' (first|with_reducible (first|refine Q1 ?_|refine Q2 ?_|refine Q3 ?_|refine Q4 ?_|refine Q5 ?_|refine Q6 ?_|refine Q7 ?_|refine Q8 ?_|refine Q9 ?_|refine Qa ?_|refine Qb ?_|refine Qc ?_|refine Qd ?_|refine Qe ?_|refine Qf ?_|refine QO ?_|refine QV 27 ?_|refine QY 27 ?_)|with_reducible (apply QC;refine QW ?_;simp only [Zg,Zi,seval];rfl)));(with_reducible refine qJ.regCut (qC 59) Tab.none 2 (s1:=?_) ?_ ?_);rotate_left 1;(focus ((with_reducible refine QW ?_);simp only [Zg,Zi,seval];with_reducible rfl));simp only [List.toList_toArray,List.drop_succ_cons,List.drop_zero])
 refine qW.lookup2 (r:=r) (S:=fun _ => False) (K:=KA) (d:=17) (k:=⟨(txtF 8 t).toArray⟩) Tryz.underlying104 Tryz.underlying9 (by kernel_rfl) hH rfl (by rfl) rfl (by show 17 < 59;decide) rfl rfl (fun z hz => ?_) (fun _ => ?_)
 ·have hz:=KA.of h (by omega) hz
  subst hz
  (refine qW.opsT (qC 59) (T:=Tab.none) (s':=?_) ?_ ?_;rotate_left 1;focus (simp only [Zg,Zi,seval];with_reducible rfl))
  repeat' (first|with_reducible (first|refine Q1 ?_|refine Q2 ?_|refine Q3 ?_|refine Q4 ?_|refine Q5 ?_|refine Q6 ?_|refine Q7 ?_|refine Q8 ?_|refine Q9 ?_|refine Qa ?_|refine Qb ?_|refine Qc ?_|refine Qd ?_|refine Qe ?_|refine Qf ?_|refine QO ?_|refine QV 27 ?_|refine QY 27 ?_)|with_reducible ((first|apply QS (qC 59) Tab.none|apply QC);refine QW ?_;simp only [Zg,Zi,seval];rfl)|with_reducible (apply QD (qC 59) Tab.none qK;(refine QW ?_;simp only [Zg,Zd,Zi,seval];rfl);refine QK ?_;simp only [Zk];kernel_rfl))
  (refine Ends.mk (by simp) (rs:=?_) (ks:=?_) hres hrts ?_ ?_ ?_;rotate_left 2;(focus (simp only [Ze,Zg,Zi,seval];with_reducible rfl));(focus simp);focus (first|with_reducible rfl|(simp only [Zv];done)))
 ·(refine qW.opsT (qC 59) (T:=Tab.none) (s':=?_) ?_ ?_;rotate_left 1;focus (simp only [Zg,Zi,seval];with_reducible rfl))
  repeat' (first|with_reducible (first|refine Q1 ?_|refine Q2 ?_|refine Q3 ?_|refine Q4 ?_|refine Q5 ?_|refine Q6 ?_|refine Q7 ?_|refine Q8 ?_|refine Q9 ?_|refine Qa ?_|refine Qb ?_|refine Qc ?_|refine Qd ?_|refine Qe ?_|refine Qf ?_|refine QO ?_|refine QV 27 ?_|refine QY 27 ?_)|with_reducible ((first|apply QS (qC 59) ((Tab.none.at' 58 hcu))|apply QC);refine QW ?_;simp only [Zg,Zi,seval,List.length_map];rfl)|with_reducible (apply QD (qC 59) ((Tab.none.at' 58 hcu)) qK;(refine QW ?_;simp only [Zg,Zd,Zi,seval,List.length_map];rfl);refine QK ?_;simp only [Zk];kernel_rfl))
  refine qJ.loop (β:=Nat) (γ:=Unit) (fun i => ⟨[(0,.c (.val (.raw (.map (some r))))),(5,.c (.val (.raw (bstr (txtF 8 t))))),(8,.c (.own 8 ((C.take i).flatMap (cutE ant1)).length)),(24,.c (.val (.sl 3 (C.map eCu)))),(25,.c (.val (.int C.length))),(26,.c (.val (.int i)))],[(8,.row 2 (((C.take i).flatMap (cutE ant1)).map ePt) false)]⟩) (fun i => i ≤ C.length) (fun i => C.length - i)
   (fun _ => ⟨[(0,.c (.val (.raw (.map (some r))))),(5,.c (.val (.raw (bstr (txtF 8 t))))),(8,.c (.own 8 (C.flatMap (cutE ant1)).length))],[(8,.row 2 ((C.flatMap (cutE ant1)).map ePt) false)]⟩) (fun _ => True) 0 (Nat.zero_le _) ?_ ?_ ?_
  ·(repeat' (first|exact Qn|((with_reducible refine Qr ?_ ?_);focus first|with_reducible rfl|(simp only [Zz,Nat.reduceBEq,List.take_zero,List.flatMap_nil,List.map_nil,List.length_nil,Int.natCast_zero];done)|rfl)|((with_reducible apply Qj);rfl)|((with_reducible refine Qw ?_ ?_);(focus first|with_reducible rfl|(simp only [Zv,List.take_zero,List.flatMap_nil,List.map_nil,List.length_nil,Int.natCast_zero];done));first|exact id|exact nofun|exact fun _=>rfl)))
  ·intro i hi
   have hi:i ≤ C.length:=hi
   have hw:=qD (n:=i) (by omega)
   by_cases h':i < C.length
   ·have i1:((i:Int) < (C.length:Int)) = True:=eq_true (by omega)
    have i2:((0:Int) ≤ (i:Int)) = True:=eq_true (by omega)
    obtain ⟨c,hcc⟩:∃ c,c = C[i]:=⟨_,rfl⟩
    have hcm:c ∈ cutsL t:=by rw [hcc,← hC];exact List.getElem_mem _
    have hKb:=hKl i
    have hst:(C.take (i + 1)).flatMap (cutE ant1) = (C.take i).flatMap (cutE ant1) ++ cutE ant1 c:=by rw [hcc,List.take_succ_eq_append_getElem h',List.flatMap_append,List.flatMap_cons,List.flatMap_nil,List.append_nil]
    obtain ⟨K,hK⟩:∃ K,K = (C.take i).flatMap (cutE ant1):=⟨_,rfl⟩
    rw [← hK] at hst hKb ⊢
    have hg:(C.map eCu)[i]? = some [.sl 1 (c.1.1.map eL),.sl 1 (c.1.2.map eI),.int c.2]:=by rw [qE h',hcc];rfl
    have hle:(C.map eCu).length = C.length:=List.length_map _
    have hlt:(K.map ePt).length = K.length:=List.length_map _
    obtain ⟨hcb,hct⟩:=hcut c hcm
    by_cases htn:c.1.2 = []
    ·have b0:((c.1.2.length:Int) == 0) = true:=by rw [htn];rfl
     have he:cutE ant1 c = []:=by unfold cutE;rw [if_pos htn]
     rw [he,List.append_nil] at hst
     repeat' (first|with_reducible (first|refine Q1 ?_|refine Q2 ?_|refine Q3 ?_|refine Q4 ?_|refine Q5 ?_|refine Q6 ?_|refine Q7 ?_|refine Q8 ?_|refine Q9 ?_|refine Qa ?_|refine Qb ?_|refine Qc ?_|refine Qd ?_|refine Qe ?_|refine Qf ?_|refine QO ?_|refine QV 27 ?_|refine QY 27 ?_)|with_reducible ((first|apply QS (qC 59) Tab.none|apply QC);refine QW ?_;simp only [Zg,Zi,seval,i1,i2,hg,hw,hle,Int.toNat_natCast,List.length_map,b0];rfl)|with_reducible (apply QD (qC 59) Tab.none qK;(refine QW ?_;simp only [Zg,Zd,Zi,seval,i1,i2,hg,hw,hle,Int.toNat_natCast,List.length_map,b0];rfl);refine QK ?_;simp only [Zk];kernel_rfl))
     refine qY.on (i + 1) ⟨h',by omega⟩ ?_
     rw [hst]
     (repeat' (first|exact Qn|((with_reducible refine Qr ?_ ?_);focus first|with_reducible rfl|(simp only [Zz,Nat.reduceBEq];done)|rfl)|((with_reducible apply Qj);rfl)|((with_reducible refine Qw ?_ ?_);(focus first|with_reducible rfl|(simp only [Zv];done));first|exact id|exact nofun|exact fun _=>rfl)))
    ·obtain ⟨hcr,hcs,hce,hctr⟩:=hct htn
     have hpos:0 < c.1.2.length:=List.length_pos_iff.2 htn
     have b0:((c.1.2.length:Int) == 0) = false:=beq_eq_false_iff_ne.2 (by omega)
     have hwn:w64 (0 - c.2) = -c.2:=by rw [qL (by omega)];omega
     have he:cutE ant1 c = sumS cmpF (prodL (ant c.1.1) [(mP (-c.2),[c.1.2])]):=by unfold cutE;rw [if_neg htn];rfl
     have ho:=a_ofForest n (by omega) ih r c.1.1 hcr (by omega)
     rw [← hH] at ho
     have hgdc:GdA (qQ c.1.1) (ant c.1.1):=by
      have:=GdA.fold (g:=ant1) (f:=c.1.1) (out:=[(1,[])]) (m:=0) (fun x hx => kA x.length (hcr x hx).1 (Nat.le_refl _)) wQ
      rw [Nat.zero_add] at this
      exact this
     have hlc:(ant c.1.1).length ≤ 300:=by
      have h1:=vJ (g:=ant1) c.1.1 [(1,[])] (fun x hx => kT x.length x (hcr x hx).1 (hcr x hx).2.1 (Nat.le_refl _))
      have h2:=eF_le c.1.1
      have h3:2 ^ eF c.1.1 ≤ 2 ^ 8:=Nat.pow_le_pow_right (by decide) (by omega)
      rw [List.length_singleton,Nat.one_mul] at h1
      exact Nat.le_trans h1 (by omega)
     have hpr:=a_products (ant c.1.1) [(mP (-c.2),[c.1.2])] (hgdc.sz (by omega)) (fun q hq => by
      obtain rfl:=List.mem_singleton.1 hq
      exact ⟨jD _,by simp,by simp [qQ];omega⟩) hlc (by simp)
     rw [← he] at hpr
     simp only [List.map_cons,List.map_nil,ePt,eL] at hpr
     obtain ⟨X,hX⟩:∃ X,X = cutE ant1 c:=⟨_,rfl⟩
     rw [← hX] at hst hce hpr
     have hXl:(X.map ePt).length = X.length:=List.length_map _
     have q1:=jW (n:=K.length + X.length) (by omega)
     have q2:=jZ (n:=K.length + X.length) (c:=32) (by omega) (by omega)
     repeat' (first|with_reducible (first|refine Q1 ?_|refine Q2 ?_|refine Q3 ?_|refine Q4 ?_|refine Q5 ?_|refine Q6 ?_|refine Q7 ?_|refine Q8 ?_|refine Q9 ?_|refine Qa ?_|refine Qb ?_|refine Qc ?_|refine Qd ?_|refine Qe ?_|refine Qf ?_|refine QO ?_|refine QV 27 ?_|refine QY 27 ?_)|with_reducible ((first|apply QS (qC 59) Tab.none|apply QC);refine QW ?_;simp only [Zg,Zi,seval,i1,i2,hg,hw,hle,Int.toNat_natCast,List.length_map,b0];rfl)|with_reducible (apply QD (qC 59) Tab.none qK;(refine QW ?_;simp only [Zg,Zd,Zi,seval,i1,i2,hg,hw,hle,Int.toNat_natCast,List.length_map,b0];rfl);refine QK ?_;simp only [Zk];kernel_rfl))
     (((with_reducible refine qJ.wFz (qC 59) TSm qK [11] (tr:=?_) (s1:=?_) (rest:=?_) ?_ ?_ ?_);rotate_left 3;(focus ((with_reducible refine QW ?_);simp only [Zg,Zd,Zi,seval,drunF,kM,vV,valD,wZ,List.contains_cons,List.contains_nil,TSm,TSm,hwn];with_reducible rfl));focus ((with_reducible refine QK ?_);simp only [Zk];kernel_rfl));(refine qW.opsT (qC 59) (T:=TSm) (s':=?_) ?_ ?_;rotate_left 1;focus (simp only [Zg,Zi,seval,TSm,TSm,hwn];with_reducible rfl)))
     repeat' (first|with_reducible (first|refine Q1 ?_|refine Q2 ?_|refine Q3 ?_|refine Q4 ?_|refine Q5 ?_|refine Q6 ?_|refine Q7 ?_|refine Q8 ?_|refine Q9 ?_|refine Qa ?_|refine Qb ?_|refine Qc ?_|refine Qd ?_|refine Qe ?_|refine Qf ?_|refine QO ?_|refine QV 27 ?_|refine QY 27 ?_)|with_reducible ((first|apply QS (qC 59) Tab.none|apply QC);refine QW ?_;simp only [Zg,Zi,seval,hw];rfl)|with_reducible (apply QD (qC 59) Tab.none qK;(refine QW ?_;simp only [Zg,Zd,Zi,seval,hw];rfl);refine QK ?_;simp only [Zk];kernel_rfl))
     refine qJ.frz 40 ?_
     simp only [St.frz,look,frzR,frzH,AV.frz,AC.frz,Obj.frz,drop,List.map_cons,List.map_nil,Nat.reduceEqDiff,if_true,if_false,List.length_cons,List.length_nil]
     refine qJ.fits (s0:=⟨[(0,.c (.val (.raw (.map (some r))))),(5,.c (.val (.raw (bstr (txtF 8 t))))),(8,.c (.own 8 K.length)),(10,.optr 10 0 0),(11,.c (.own 11 1)),(24,.c (.val (.sl 3 (C.map eCu)))),(25,.c (.val (.int C.length))),(26,.c (.val (.int i)))],
      [(8,.row 2 (K.map ePt) false),(10,.row 3 [[.sl 1 (c.1.1.map eL),.sl 1 (c.1.2.map eI),.int c.2]] false),(11,.lit 2 [[.val (.int (mP (-c.2))),.val (.sl 1 [[.sl 1 (c.1.2.map eI)]])]])]⟩) ?_ ?_
     ·(repeat' (first|exact Qn|((with_reducible refine Qr ?_ ?_);focus first|with_reducible rfl|(simp only [Zz,Nat.reduceBEq];done)|rfl)|((with_reducible apply Qj);rfl)|((with_reducible refine Qw ?_ ?_);(focus first|with_reducible rfl|(simp only [Zv];done));first|exact id|exact nofun|exact fun _=>rfl)))
      all_goals exact ⟨rfl,rfl⟩
     refine qJ.litRow 11 [.int (mP (-c.2)),.sl 1 [[.sl 1 (c.1.2.map eI)]]] rfl ?_
     simp only [insR,Nat.reduceEqDiff,Nat.reduceLT,if_true,if_false]
     ((repeat' (first|with_reducible (first|refine Q1 ?_|refine Q2 ?_|refine Q3 ?_|refine Q4 ?_|refine Q5 ?_|refine Q6 ?_|refine Q7 ?_|refine Q8 ?_|refine Q9 ?_|refine Qa ?_|refine Qb ?_|refine Qc ?_|refine Qd ?_|refine Qe ?_|refine Qf ?_|refine QO ?_|refine QV 27 ?_|refine QY 27 ?_)|with_reducible (apply QC;refine QW ?_;simp only [Zg,Zi,seval];rfl)));(with_reducible refine qJ.regCut (qC 59) Tab.none 4 (s1:=?_) ?_ ?_);rotate_left 1;(focus ((with_reducible refine QW ?_);simp only [Zg,Zi,seval];with_reducible rfl));simp only [List.toList_toArray,List.drop_succ_cons,List.drop_zero])
     refine qW.callH (qC 59) (d:=47) (g:=76) (ds:=[[.raw (.map (some r))],[.sl 1 (c.1.1.map eL)]]) (by rfl) ho ?_
     refine qW.frzs [11] ?_
     (refine qW.opsT (qC 59) (T:=Tab.none.at' 83 hpr) (s':=?_) ?_ ?_;rotate_left 1;focus (simp only [Zg,Zi,seval,q1,q2,hlt,hXl,St.frzs,St.frz,frzR,frzH,AV.frz,AC.frz];with_reducible rfl))
     repeat' (first|with_reducible (first|refine Q1 ?_|refine Q2 ?_|refine Q3 ?_|refine Q4 ?_|refine Q5 ?_|refine Q6 ?_|refine Q7 ?_|refine Q8 ?_|refine Q9 ?_|refine Qa ?_|refine Qb ?_|refine Qc ?_|refine Qd ?_|refine Qe ?_|refine Qf ?_|refine QO ?_|refine QV 27 ?_|refine QY 27 ?_)|with_reducible ((first|apply QS (qC 59) Tab.none|apply QC);refine QW ?_;simp only [Zg,Zi,seval,hw];rfl)|with_reducible (apply QD (qC 59) Tab.none qK;(refine QW ?_;simp only [Zg,Zd,Zi,seval,hw];rfl);refine QK ?_;simp only [Zk];kernel_rfl))
     refine qY.on (i + 1) ⟨h',by omega⟩ ?_
     rw [hst]
     (repeat' (first|exact Qn|((with_reducible refine Qr ?_ ?_);focus first|with_reducible rfl|(simp only [Zz,Nat.reduceBEq];done)|rfl)|((with_reducible apply Qj);rfl)|((with_reducible refine Qw ?_ ?_);(focus first|with_reducible rfl|(simp only [Zv];done));first|exact id|exact nofun|exact fun _=>rfl)))
   ·have i1:((i:Int) < (C.length:Int)) = False:=eq_false (by omega)
    obtain rfl:i = C.length:=by omega
    rw [List.take_length]
    repeat' (first|with_reducible (first|refine Q1 ?_|refine Q2 ?_|refine Q3 ?_|refine Q4 ?_|refine Q5 ?_|refine Q6 ?_|refine Q7 ?_|refine Q8 ?_|refine Q9 ?_|refine Qa ?_|refine Qb ?_|refine Qc ?_|refine Qd ?_|refine Qe ?_|refine Qf ?_|refine QO ?_|refine QV 27 ?_|refine QY 27 ?_)|with_reducible ((first|apply QS (qC 59) Tab.none|apply QC);refine QW ?_;simp only [Zg,Zi,seval,i1];rfl)|with_reducible (apply QD (qC 59) Tab.none qK;(refine QW ?_;simp only [Zg,Zd,Zi,seval,i1];rfl);refine QK ?_;simp only [Zk];kernel_rfl))
    refine qY.out () trivial ?_
    (repeat' (first|exact Qn|((with_reducible refine Qr ?_ ?_);focus first|with_reducible rfl|(simp only [Zz,Nat.reduceBEq];done)|rfl)|((with_reducible apply Qj);rfl)|((with_reducible refine Qw ?_ ?_);(focus first|with_reducible rfl|(simp only [Zv];done));first|exact id|exact nofun|exact fun _=>rfl)))
  ·rintro _ _
   have hsm:=AFn.valT (a_summed (C.flatMap (cutE ant1)) (by have:=hKl C.length;rw [List.take_length] at this;omega) (fun q hq => by
    obtain ⟨c,hcm,hq⟩:=List.mem_flatMap.1 hq
    rw [hC] at hcm
    by_cases htn:c.1.2 = []
    ·unfold cutE at hq;rw [if_pos htn] at hq;cases hq
    ·obtain ⟨hcr,hcs,_,hctr⟩:=(hcut c hcm).2 htn
     have hgdc:GdA (qQ c.1.1) (antF ant1 c.1.1):=by
      have:=GdA.fold (g:=ant1) (f:=c.1.1) (out:=[(1,[])]) (m:=0) (fun x hx => kA x.length (hcr x hx).1 (Nat.le_refl _)) wQ
      rw [Nat.zero_add] at this
      exact this
     have hc2:GdA c.1.2.length [(mP (-c.2),[c.1.2])]:=fun q hq => by
      obtain rfl:=List.mem_singleton.1 hq
      exact ⟨jD _,fun t ht => by obtain rfl:=List.mem_singleton.1 ht;exact hctr.1,by simp [qQ]⟩
     unfold cutE at hq
     rw [if_neg htn] at hq
     have h1:=GdA.sum (hgdc.prod hc2)
     have h2:=h1 q hq
     have h3:q.2.length ≤ qQ q.2:=gd_len h1 q hq
     exact ⟨h2.1,by omega,by omega⟩))
   rw [hC,← ant1_cuts h,← hC] at hsm
   obtain ⟨H2,hH2⟩:∃ H2,H2 = hidM KA (fun q => (fun _ => False) q ∨ q = .string ⟨(txtF 8 t).toArray⟩) r:=⟨_,rfl⟩
   refine qJ.next ?_
   refine qJ.update (qC 59) (Tab.none.at' 89 hsm) 4 [] (cfg':=cfg 59 H2) (k:=⟨(txtF 8 t).toArray⟩) (z:=.sl 2 ((ant1 t).map ePt)) (s1:=?zs1) rfl hH hH2 Tryz.underlying104 Tryz.underlying9 ?ha rfl rfl rfl rfl ?hx ?hy ?hv hKA ?_
   case ha =>
    simp only [List.toList_toArray,List.take_succ_cons,List.take_zero]
    simp only [Zg,Zi,seval]
    with_reducible rfl
   case hx => rfl
   case hy => rfl
   case hv => rfl
   simp only [St.frzs]
   ((repeat' (first|with_reducible (first|refine Q1 ?_|refine Q2 ?_|refine Q3 ?_|refine Q4 ?_|refine Q5 ?_|refine Q6 ?_|refine Q7 ?_|refine Q8 ?_|refine Q9 ?_|refine Qa ?_|refine Qb ?_|refine Qc ?_|refine Qd ?_|refine Qe ?_|refine Qf ?_|refine QO ?_|refine QV 27 ?_|refine QY 27 ?_)|with_reducible (apply QC;refine QW ?_;simp only [Zg,Zi,seval];rfl)));(with_reducible refine qJ.regCut (qC 59) Tab.none 2 (s1:=?_) ?_ ?_);rotate_left 1;(focus ((with_reducible refine QW ?_);simp only [Zg,Zi,seval];with_reducible rfl));simp only [List.toList_toArray,List.drop_succ_cons,List.drop_zero])
   refine qW.lookup1 (r:=r) (S:=fun q => (fun _ => False) q ∨ q = .string ⟨(txtF 8 t).toArray⟩) (K:=KA) (d:=58) (k:=⟨(txtF 8 t).toArray⟩) Tryz.underlying104 Tryz.underlying9 (by kernel_rfl) hH2 (.inr rfl) rfl (by rfl) rfl (by show 58 < 59;decide) rfl rfl (fun z hz => ?_)
   have hz:=KA.of h (by omega) hz
   subst hz
   (refine qW.opsT (qC 59) (T:=Tab.none) (s':=?_) ?_ ?_;rotate_left 1;focus (simp only [Zg,Zi,seval];with_reducible rfl))
   repeat' (first|with_reducible (first|refine Q1 ?_|refine Q2 ?_|refine Q3 ?_|refine Q4 ?_|refine Q5 ?_|refine Q6 ?_|refine Q7 ?_|refine Q8 ?_|refine Q9 ?_|refine Qa ?_|refine Qb ?_|refine Qc ?_|refine Qd ?_|refine Qe ?_|refine Qf ?_|refine QO ?_|refine QV 27 ?_|refine QY 27 ?_)|with_reducible ((first|apply QS (qC 59) Tab.none|apply QC);refine QW ?_;simp only [Zg,Zi,seval];rfl)|with_reducible (apply QD (qC 59) Tab.none qK;(refine QW ?_;simp only [Zg,Zd,Zi,seval];rfl);refine QK ?_;simp only [Zk];kernel_rfl))
   show outK Tryz.prog (cfg 59 H) M [] _ _ _
   (refine Ends.mk (by simp) (rs:=?_) (ks:=?_) hres hrts ?_ ?_ ?_;rotate_left 2;(focus (simp only [Ze,Zg,Zi,seval];with_reducible rfl));(focus simp);focus (first|with_reducible rfl|(simp only [Zv];done)))
theorem ofT_all:∀ n,n ≤ 8→OfT n
 | 0,_ => fun r t h _ hl => by have:=h.pos;omega
 | n + 1,hn => fun r t h hc hl => a_ofTree n (by omega) (ofT_all n (by omega)) r t h hc hl
end
section
def antM (e:Elt):Elt:=e.flatMap fun p => (ant p.2).map fun q => (mP (q.1 * p.1),q.2)
def antOf (e:Elt):Elt × Int:=if elB e = true then limS (sumS cmpF (antM e)) else ([],1)
theorem xP0 (e:Elt) (hz:szP e):AFn Tryz.prog 25 [[.sl 2 (e.map ePt)]] (· = [.own 2 ((antOf e).1.map ePt) true,.val (.int (antOf e).2)]):=by
 have h1:=qL0 e hz
 unfold antOf
 refine AFn.of_runs (qX 33) Tryz.func25 rfl rfl rfl gz ?_
 have hres:Tryz.f25.results.toList = [.tmp 2,.tmp 3]:=rfl
 have hrts:Tryz.f25.resultTypes.toList = [50,2]:=rfl
 simp only [qU,qT,eL,eI,eLL,eB,Nat.zero_add,Nat.reduceAdd]
 intro M
 refine qJ.of ?_
 by_cases hE:elB e = true
 rotate_left
 ·have hE':elB e = false:=by simpa using hE
  rw [if_neg hE]
  rw [hE'] at h1
  repeat' (first|with_reducible (first|refine Q1 ?_|refine Q2 ?_|refine Q3 ?_|refine Q4 ?_|refine Q5 ?_|refine Q6 ?_|refine Q7 ?_|refine Q8 ?_|refine Q9 ?_|refine Qa ?_|refine Qb ?_|refine Qc ?_|refine Qd ?_|refine Qe ?_|refine Qf ?_|refine QO ?_|refine QV 16 ?_|refine QY 16 ?_)|with_reducible ((first|apply QS (qX 33) (Tab.none.at' 32 h1)|apply QC);refine QW ?_;simp only [Zg,Zi,seval];rfl)|with_reducible (apply QD (qX 33) (Tab.none.at' 32 h1) qK;(refine QW ?_;simp only [Zg,Zd,Zi,seval];rfl);refine QK ?_;simp only [Zk];kernel_rfl))
  (refine Ends.mk (by simp) (rs:=?_) (ks:=?_) hres hrts ?_ ?_ ?_;rotate_left 2;(focus (simp only [Ze,Zg,Zi,seval];with_reducible rfl));(focus simp);focus (first|with_reducible rfl|(simp only [Zv];done)))
 rw [hE] at h1
 rw [if_pos hE]
 ((repeat' (first|with_reducible (first|refine Q1 ?_|refine Q2 ?_|refine Q3 ?_|refine Q4 ?_|refine Q5 ?_|refine Q6 ?_|refine Q7 ?_|refine Q8 ?_|refine Q9 ?_|refine Qa ?_|refine Qb ?_|refine Qc ?_|refine Qd ?_|refine Qe ?_|refine Qf ?_|refine QO ?_|refine QV 16 ?_|refine QY 16 ?_)|with_reducible (apply QC;refine QW ?_;simp only [Zg,Zi,seval];rfl)));with_reducible (apply QS (qX 33) Tab.none;refine QW ?_;simp only [Zg,Zi,seval];rfl);(repeat' (first|with_reducible (first|refine Q1 ?_|refine Q2 ?_|refine Q3 ?_|refine Q4 ?_|refine Q5 ?_|refine Q6 ?_|refine Q7 ?_|refine Q8 ?_|refine Q9 ?_|refine Qa ?_|refine Qb ?_|refine Qc ?_|refine Qd ?_|refine Qe ?_|refine Qf ?_|refine QO ?_|refine QV 16 ?_|refine QY 16 ?_)|with_reducible (apply QC;refine QW ?_;simp only [Zg,Zi,seval];rfl))))
 have hok:=vP hE
 have hld:=hok.2.1
 have hfor:∀ p ∈ e,(∀ t ∈ p.2,qZ t∧canon t = t∧t.length ≤ 8)∧qQ p.2 ≤ 8:=fun p hp => by
  have hb:=(yE hE).2.2.2 p hp
  have hs:=(forB_tree' hb).2
  exact ⟨fun t ht => ⟨vZ hb t ht,forB_can hb t ht,by have:=jK ht;omega⟩,hs⟩
 have hcf:∀ p ∈ e,0 ≤ p.1∧p.1 < 10007:=fun p hp => by have:=(hok.1 p hp).1;omega
 have hgd:∀ p ∈ e,GdA (qQ p.2) (ant p.2):=fun p hp => by
  have:=GdA.fold (g:=ant1) (f:=p.2) (out:=[(1,[])]) (m:=0) (fun x hx => kA x.length ((hfor p hp).1 x hx).1 (Nat.le_refl _)) wQ
  rw [Nat.zero_add] at this
  exact this
 have hln:∀ p ∈ e,(ant p.2).length ≤ 256:=fun p hp => by
  have h1:=vJ (g:=ant1) p.2 [(1,[])] (fun x hx => kT x.length x ((hfor p hp).1 x hx).1 ((hfor p hp).1 x hx).2.1 (Nat.le_refl _))
  have h2:=eF_le p.2
  have h3:2 ^ eF p.2 ≤ 2 ^ 8:=Nat.pow_le_pow_right (by decide) (by have:=(hfor p hp).2;omega)
  rw [List.length_singleton,Nat.one_mul] at h1
  exact Nat.le_trans h1 h3
 have hMl:∀ i,(antM (e.take i)).length ≤ 76800:=fun i => by
  have key:∀ (L:Elt),(∀ p ∈ L,(ant p.2).length ≤ 256)→(antM L).length ≤ 256 * L.length:=by
   intro L
   induction L with
   | nil => intro _;simp [antM]
   | cons c L ihL =>
    intro hL
    have e1:antM (c :: L) = ((ant c.2).map fun q => (mP (q.1 * c.1),q.2)) ++ antM L:=rfl
    rw [e1,List.length_append,List.length_map,List.length_cons]
    have a1:=hL c (by simp)
    have a2:=ihL fun x hx => hL x (by simp [hx])
    omega
  have:=key (e.take i) fun p hp => hln p (List.mem_of_mem_take hp)
  rw [List.length_take] at this
  omega
 ((repeat' (first|with_reducible (first|refine Q1 ?_|refine Q2 ?_|refine Q3 ?_|refine Q4 ?_|refine Q5 ?_|refine Q6 ?_|refine Q7 ?_|refine Q8 ?_|refine Q9 ?_|refine Qa ?_|refine Qb ?_|refine Qc ?_|refine Qd ?_|refine Qe ?_|refine Qf ?_|refine QO ?_|refine QV 16 ?_|refine QY 16 ?_)|with_reducible (apply QC;refine QW ?_;simp only [Zg,Zi,seval];rfl)));(with_reducible refine qJ.regCut (qX 33) (Tab.none.at' 32 h1) 3 (s1:=?_) ?_ ?_);rotate_left 1;(focus ((with_reducible refine QW ?_);simp only [Zg,Zi,seval];with_reducible rfl));simp only [List.toList_toArray,List.drop_succ_cons,List.drop_zero])
 refine qW.nil ?_
 refine qJ.next ?_
 refine qJ.condF rfl ?_
 refine qJ.skip ?_
 refine qJ.next ?_
 refine qJ.makeMap (qX 33) Tab.none (cfg':=fun r => cfg 33 (hidA r)) (K:=KA) 0 (dd:=11) (fun r => qC 33) (fun _ => rfl) rfl (fun _ => rfl) rfl rfl rfl rfl rfl (by show 11 < 33;decide) (fun r M' => ⟨?s2,?ha,?hb⟩)
 case ha =>
  simp only [Zg,Zi,seval]
  with_reducible rfl
 case hb =>
  obtain ⟨H,hH⟩:∃ H,H = hidA r:=⟨_,rfl⟩
  show qJ _ (cfg 33 (hidA r)) _ _ _ _ _
  rw [← hH]
  repeat' (first|with_reducible (first|refine Q1 ?_|refine Q2 ?_|refine Q3 ?_|refine Q4 ?_|refine Q5 ?_|refine Q6 ?_|refine Q7 ?_|refine Q8 ?_|refine Q9 ?_|refine Qa ?_|refine Qb ?_|refine Qc ?_|refine Qd ?_|refine Qe ?_|refine Qf ?_|refine QO ?_|refine QV 16 ?_|refine QY 16 ?_)|with_reducible ((first|apply QS (qC 33) Tab.none|apply QC);refine QW ?_;simp only [Zg,Zi,seval,List.length_map];rfl)|with_reducible (apply QD (qC 33) Tab.none qK;(refine QW ?_;simp only [Zg,Zd,Zi,seval,List.length_map];rfl);refine QK ?_;simp only [Zk];kernel_rfl))
  refine qJ.loop (β:=Nat) (γ:=Unit) (fun i => ⟨[(4,.c (.val (.raw (.map (some r))))),(5,.c (.own 5 (antM (e.take i)).length)),(13,.c (.val (.sl 2 (e.map ePt)))),(14,.c (.val (.int e.length))),(15,.c (.val (.int i)))],[(5,.row 2 ((antM (e.take i)).map ePt) false)]⟩) (fun i => i ≤ e.length) (fun i => e.length - i)
   (fun _ => ⟨[(5,.c (.own 5 (antM e).length))],[(5,.row 2 ((antM e).map ePt) false)]⟩) (fun _ => True) 0 (Nat.zero_le _) ?_ ?_ ?_
  ·(repeat' (first|exact Qn|((with_reducible refine Qr ?_ ?_);focus first|with_reducible rfl|(simp only [Zz,Nat.reduceBEq,List.take_zero,show antM [] = [] from rfl,List.map_nil,List.length_nil,Int.natCast_zero];done)|rfl)|((with_reducible apply Qj);rfl)|((with_reducible refine Qw ?_ ?_);(focus first|with_reducible rfl|(simp only [Zv,List.take_zero,show antM [] = [] from rfl,List.map_nil,List.length_nil,Int.natCast_zero];done));first|exact id|exact nofun|exact fun _=>rfl)))
  ·intro i hi
   have hi:i ≤ e.length:=hi
   have hw:=qD (n:=i) (by omega)
   by_cases h':i < e.length
   ·have i1:((i:Int) < (e.length:Int)) = True:=eq_true (by omega)
    have i2:((0:Int) ≤ (i:Int)) = True:=eq_true (by omega)
    obtain ⟨p,hpp⟩:∃ p,p = e[i]:=⟨_,rfl⟩
    have hpm:p ∈ e:=by rw [hpp];exact List.getElem_mem _
    have hKb:=hMl i
    have hst:antM (e.take (i + 1)) = antM (e.take i) ++ (ant p.2).map fun q => (mP (q.1 * p.1),q.2):=by rw [hpp];unfold antM;rw [List.take_succ_eq_append_getElem h',List.flatMap_append,List.flatMap_cons,List.flatMap_nil,List.append_nil]
    obtain ⟨K,hK⟩:∃ K,K = antM (e.take i):=⟨_,rfl⟩
    rw [← hK] at hst hKb ⊢
    have hg:(e.map ePt)[i]? = some [.int p.1,.sl 1 (p.2.map eL)]:=by rw [qE h',hpp];rfl
    have hle:(e.map ePt).length = e.length:=List.length_map _
    have hlt:(K.map ePt).length = K.length:=List.length_map _
    have ho:=a_ofForest 8 (Nat.le_refl _) (ofT_all 8 (Nat.le_refl _)) r p.2 (hfor p hpm).1 (hfor p hpm).2
    rw [← hH] at ho
    have hmu:=a_multiples (ant p.2) p.1 (fun q hq => (hgd p hpm q hq).1) (hcf p hpm) (by have:=hln p hpm;omega)
    obtain ⟨X,hX⟩:∃ X,X = (ant p.2).map fun q => (mP (q.1 * p.1),q.2):=⟨_,rfl⟩
    have hXl:(X.map ePt).length = X.length:=List.length_map _
    have hXb:X.length ≤ 256:=by rw [hX,List.length_map];exact hln p hpm
    rw [← hX] at hst hmu
    simp only [eI] at hmu
    have q1:=jW (n:=K.length + X.length) (by omega)
    have q2:=jZ (n:=K.length + X.length) (c:=32) (by omega) (by omega)
    repeat' (first|with_reducible (first|refine Q1 ?_|refine Q2 ?_|refine Q3 ?_|refine Q4 ?_|refine Q5 ?_|refine Q6 ?_|refine Q7 ?_|refine Q8 ?_|refine Q9 ?_|refine Qa ?_|refine Qb ?_|refine Qc ?_|refine Qd ?_|refine Qe ?_|refine Qf ?_|refine QO ?_|refine QV 16 ?_|refine QY 16 ?_)|with_reducible ((first|apply QS (qC 33) Tab.none|apply QC);refine QW ?_;simp only [Zg,Zi,seval,i1,i2,hg,hw,hle,Int.toNat_natCast,List.length_map];rfl)|with_reducible (apply QD (qC 33) Tab.none qK;(refine QW ?_;simp only [Zg,Zd,Zi,seval,i1,i2,hg,hw,hle,Int.toNat_natCast,List.length_map];rfl);refine QK ?_;simp only [Zk];kernel_rfl))
    refine qJ.regDH (qC 33) (Tab.none.at' 75 hmu) qK 4 (o:=?zo) (tr1:=?ztr1) (s1:=?zs1) (tr2:=?ztr2) (s2:=?zs3) (rest:=?zrest) (s':=?zs) (d:=23) (g:=76) (ds:=[[.raw (.map (some r))],[.sl 1 (p.2.map eL)]]) ?h1 ?hl ?ho ?hac ho ?h2 ?hc ?hfr ?h3 ?_
    case h1 =>
     simp only [List.toList_toArray,List.take_succ_cons,List.take_zero]
     simp only [Zg,Zd,Zi,seval]
     with_reducible rfl
    case hl => rfl
    case ho => rfl
    case hac => rfl
    case h2 =>
     simp only [List.toList_toArray,List.drop_succ_cons,List.drop_zero,List.map_cons,List.map_nil,outAV]
     simp only [Zg,Zd,Zi,seval]
     with_reducible rfl
    case hc => kernel_rfl
    case hfr => rfl
    case h3 =>
     simp only [Zg,Zi,seval,q1,q2,hlt,hXl]
     with_reducible rfl
    repeat' (first|with_reducible (first|refine Q1 ?_|refine Q2 ?_|refine Q3 ?_|refine Q4 ?_|refine Q5 ?_|refine Q6 ?_|refine Q7 ?_|refine Q8 ?_|refine Q9 ?_|refine Qa ?_|refine Qb ?_|refine Qc ?_|refine Qd ?_|refine Qe ?_|refine Qf ?_|refine QO ?_|refine QV 16 ?_|refine QY 16 ?_)|with_reducible ((first|apply QS (qC 33) Tab.none|apply QC);refine QW ?_;simp only [Zg,Zi,seval,hw];rfl)|with_reducible (apply QD (qC 33) Tab.none qK;(refine QW ?_;simp only [Zg,Zd,Zi,seval,hw];rfl);refine QK ?_;simp only [Zk];kernel_rfl))
    refine qY.on (i + 1) ⟨h',by omega⟩ ?_
    rw [hst]
    (repeat' (first|exact Qn|((with_reducible refine Qr ?_ ?_);focus first|with_reducible rfl|(simp only [Zz,Nat.reduceBEq];done)|rfl)|((with_reducible apply Qj);rfl)|((with_reducible refine Qw ?_ ?_);(focus first|with_reducible rfl|(simp only [Zv];done));first|exact id|exact nofun|exact fun _=>rfl)))
   ·have i1:((i:Int) < (e.length:Int)) = False:=eq_false (by omega)
    obtain rfl:i = e.length:=by omega
    rw [List.take_length]
    repeat' (first|with_reducible (first|refine Q1 ?_|refine Q2 ?_|refine Q3 ?_|refine Q4 ?_|refine Q5 ?_|refine Q6 ?_|refine Q7 ?_|refine Q8 ?_|refine Q9 ?_|refine Qa ?_|refine Qb ?_|refine Qc ?_|refine Qd ?_|refine Qe ?_|refine Qf ?_|refine QO ?_|refine QV 16 ?_|refine QY 16 ?_)|with_reducible ((first|apply QS (qC 33) Tab.none|apply QC);refine QW ?_;simp only [Zg,Zi,seval,i1];rfl)|with_reducible (apply QD (qC 33) Tab.none qK;(refine QW ?_;simp only [Zg,Zd,Zi,seval,i1];rfl);refine QK ?_;simp only [Zk];kernel_rfl))
    refine qY.out () trivial ?_
    (repeat' (first|exact Qn|((with_reducible refine Qr ?_ ?_);focus first|with_reducible rfl|(simp only [Zz,Nat.reduceBEq];done)|rfl)|((with_reducible apply Qj);rfl)|((with_reducible refine Qw ?_ ?_);(focus first|with_reducible rfl|(simp only [Zv];done));first|exact id|exact nofun|exact fun _=>rfl)))
  ·rintro _ _
   have hli:=a_limited (antM e) (by have:=hMl e.length;rw [List.take_length] at this;omega) (fun q hq => by
    unfold antM at hq
    obtain ⟨p,hp,hq⟩:=List.mem_flatMap.1 hq
    obtain ⟨x,hx,rfl⟩:=List.mem_map.1 hq
    have h1:=(hgd p hp) x hx
    have h2:=gd_len (hgd p hp) x hx
    have h3:=(hfor p hp).2
    exact ⟨jD _,by show x.2.length ≤ 19;omega,by show qQ x.2 ≤ 100;omega⟩)
   repeat' (first|with_reducible (first|refine Q1 ?_|refine Q2 ?_|refine Q3 ?_|refine Q4 ?_|refine Q5 ?_|refine Q6 ?_|refine Q7 ?_|refine Q8 ?_|refine Q9 ?_|refine Qa ?_|refine Qb ?_|refine Qc ?_|refine Qd ?_|refine Qe ?_|refine Qf ?_|refine QO ?_|refine QV 16 ?_|refine QY 16 ?_)|with_reducible ((first|apply QS (qC 33) (Tab.none.at' 77 hli)|apply QC);refine QW ?_;simp only [Zg,Zi,seval];rfl)|with_reducible (apply QD (qC 33) (Tab.none.at' 77 hli) qK;(refine QW ?_;simp only [Zg,Zd,Zi,seval];rfl);refine QK ?_;simp only [Zk];kernel_rfl))
   show outK Tryz.prog (cfg 33) M [] _ _ _
   (refine Ends.mk (by simp) (rs:=?_) (ks:=?_) hres hrts ?_ ?_ ?_;rotate_left 2;(focus (simp only [Ze,Zg,Zi,seval];with_reducible rfl));(focus simp);focus (first|with_reducible rfl|(simp only [Zv];done)))
end
section
def sumC (c:Cu):Elt:=sumS cmpF (prodL (ant c.1.1) [(1,[c.1.2])])
def spM (c:Cu):Elt:=if c.1.2 = [] then [] else mulE (mP (-c.2)) (sumC c)
theorem spM_range (c:Cu):∀ q ∈ spM c,0 ≤ q.1∧q.1 < 10007:=fun q hq => by
 unfold spM at hq
 split at hq
 ·cases hq
 ·obtain ⟨p,_,rfl⟩:=List.mem_map.1 hq
  exact jD _
theorem cutE_range (c:Cu):∀ q ∈ cutE ant1 c,0 ≤ q.1∧q.1 < 10007:=fun q hq => by
 unfold cutE at hq
 split at hq
 ·cases hq
 ·have:=(xH jV (M:=prodL (antF ant1 c.1.1) [(mP (-c.2),[c.1.2])]) fun q hq => by
   unfold prodL at hq
   obtain ⟨p,_,hq⟩:=List.mem_flatMap.1 hq
   obtain ⟨r,_,rfl⟩:=List.mem_map.1 hq
   exact jD _).2 q hq
  omega
theorem lin_mulE (F:List (List Int)→Int) (k:Int) (e:Elt):Eqm (lin F (mulE k e)) (k * lin F e):=by
 induction e with
 | nil => exact Eqm.of (by simp [mulE,lin])
 | cons p e ih =>
  have e1:lin F (mulE k (p :: e)) = mP (k * p.1) * F p.2 + lin F (mulE k e):=rfl
  have e2:lin F (p :: e) = p.1 * F p.2 + lin F e:=rfl
  rw [e1,e2,Int.mul_add,← Int.mul_assoc]
  exact ((eqm_mP _).mulR _).add ih
theorem lin_spM (F:List (List Int)→Int) (c:Cu):Eqm (lin F (spM c)) (lin F (cutE ant1 c)):=by
 unfold spM cutE
 split
 ·exact Eqm.refl _
 ·refine (lin_mulE F _ _).trans ?_
  have a1:Eqm (lin F (sumC c)) (lin (fun x => F (mulF x [c.1.2])) (ant c.1.1)):=by
   refine (xM jV F _).trans ((jK0 F _ _).trans (Eqm.of ?_))
   congr 1
   funext x
   show 1 * F (mulF x [c.1.2]) + 0 = _
   omega
  have a2:Eqm (lin F (sumS cmpF (prodL (antF ant1 c.1.1) [(mP (-c.2),[c.1.2])]))) (mP (-c.2) * lin (fun x => F (mulF x [c.1.2])) (ant c.1.1)):=by
   refine (xM jV F _).trans ((jK0 F _ _).trans (Eqm.of ?_))
   rw [← lin_scale]
   show lin _ (ant c.1.1) = _
   congr 1
   funext x
   show mP (-c.2) * F (mulF x [c.1.2]) + 0 = _
   omega
  exact (a1.mulL _).trans a2.symm
theorem sp_own {t:List Int} (h:qZ t):addS cmpF [] ((cutsL t).flatMap spM) = ant1 t:=by
 rw [ant1_cuts h]
 refine sum_lin jV (fun q hq => ?_) (fun q hq => ?_) (fun F => ?_)
 ·obtain ⟨c,_,hq⟩:=List.mem_flatMap.1 hq
  exact spM_range c q hq
 ·obtain ⟨c,_,hq⟩:=List.mem_flatMap.1 hq
  exact cutE_range c q hq
 ·rw [qS0,qS0]
  exact qU0 fun c _ => lin_spM F c
theorem antM_mulE (e:Elt):antM e = e.flatMap fun p => mulE p.1 (ant p.2):=by
 unfold antM mulE
 congr 1
 funext p
 congr 1
 funext q
 rw [Int.mul_comm]
theorem cut_facts {t:List Int} (h:qZ t) (hl:t.length ≤ 8):∀ c ∈ cutsL t,(1 ≤ c.2∧c.2 ≤ 256)∧(c.1.2 ≠ []→(∀ x ∈ c.1.1,qZ x∧canon x = x∧x.length ≤ t.length - 1)∧qQ c.1.1 ≤ 8∧(1 ≤ c.1.2.length∧c.1.2.length ≤ 8)∧(ant c.1.1).length ≤ 256∧GdA (qQ c.1.1) (ant c.1.1)):=fun c hcm => by
 obtain ⟨z,hz,rfl,hg,hz1,h1⟩:=wY h hcm
 have h2:=(kI (xI _ (Nat.le_refl _) h) z hz).2.1
 have h3:=kX _ (Nat.le_refl _) h
 have h4:2 ^ t.length ≤ 2 ^ 8:=Nat.pow_le_pow_right (by decide) hl
 refine ⟨⟨hz1,Int.le_trans h2 (by omega)⟩,fun htn => ?_⟩
 rcases h1 with ⟨_,h1⟩|⟨_,h1⟩
 ·exact absurd h1 htn
 ·have a2:=hg.2
  have a3:qQ z.1.2 = (cutS z).1.2.length:=by rw [h1];simp [qQ]
  have a4:=hg.1 (cutS z).1.2 (by rw [h1];simp)
  have a5:=a4.1.pos
  have hx1:∀ x ∈ z.1.1,qZ x∧canon x = x∧x.length ≤ t.length - 1:=fun x hx => by
   have b1:=hg.1 x (by simp [hx])
   have b2:=jK hx
   exact ⟨b1.1,b1.2,by omega⟩
  refine ⟨hx1,?_,⟨a5,by omega⟩,?_,?_⟩
  ·show qQ z.1.1 ≤ 8
   omega
  ·have b1:=vJ (g:=ant1) (cutS z).1.1 [(1,[])] (fun x hx => kT x.length x (hx1 x hx).1 (hx1 x hx).2.1 (Nat.le_refl _))
   have e1:eF (cutS z).1.1 ≤ qQ z.1.1:=eF_le _
   have e2:2 ^ eF (cutS z).1.1 ≤ 2 ^ 8:=Nat.pow_le_pow_right (by decide) (by omega)
   rw [List.length_singleton,Nat.one_mul] at b1
   exact Nat.le_trans b1 e2
  ·have:=GdA.fold (g:=ant1) (f:=(cutS z).1.1) (out:=[(1,[])]) (m:=0) (fun x hx => kA x.length (hx1 x hx).1 (Nat.le_refl _)) wQ
   rw [Nat.zero_add] at this
   exact this
theorem sumC_ok {c:Cu} (hg:GdA (qQ c.1.1) (ant c.1.1)) (hs:qQ c.1.1 ≤ 8) (hc:1 ≤ c.1.2.length∧c.1.2.length ≤ 8):OkE (sumC c)∧(∀ q ∈ spM c,(0 ≤ q.1∧q.1 < 10007)∧SmF q.2):=by
 have hc2:GdA c.1.2.length [(1,[c.1.2])]:=fun q hq => by
  obtain rfl:=List.mem_singleton.1 hq
  exact ⟨(⟨by decide,by decide⟩:(0:Int) ≤ 1∧(1:Int) < 10007),fun t ht => by obtain rfl:=List.mem_singleton.1 ht;exact hc.1,by simp [qQ]⟩
 have h1:=GdA.sum (hg.prod hc2)
 have h2:OkE (sumC c):=fun q hq => by
  have hn:=(xH jV (M:=prodL (ant c.1.1) [(1,[c.1.2])]) fun q hq => ((hg.prod hc2) q hq).1).2 q hq
  have h3:=h1 q hq
  have h4:=gd_len h1 q hq
  exact ⟨hn,by omega,by omega⟩
 refine ⟨h2,fun q hq => ?_⟩
 unfold spM at hq
 split at hq
 ·cases hq
 ·exact mulE_ok h2 q hq
theorem spM_len {c:Cu} (h:(ant c.1.1).length ≤ 256):(spM c).length ≤ 256:=by
 unfold spM
 split
 ·simp
 ·unfold mulE sumC
  rw [List.length_map]
  refine Nat.le_trans (wW _) ?_
  rw [prodLn,List.length_singleton,Nat.mul_one]
  exact h
theorem addS_nil2 (d:Elt):addS cmpF d [] = d:=rfl
def OfS (n:Nat):Prop:=∀ f:List (List Int),(∀ t ∈ f,qZ t∧canon t = t∧t.length ≤ n)→qQ f ≤ 8→AFn Tryz.prog 72 [[.sl 1 (f.map eL)]] (· = [.val (.sl 2 ((ant f).map ePt))])
theorem a_l06Antipode1 (n:Nat) (ih:∀ m,m < n→OfS m):OfS n:=by
 intro f hf hs
 have hf8:∀ t ∈ f,t.length ≤ 8:=fun t ht => by have:=jK ht;omega
 have hfl:f.length ≤ 8:=by
  refine Nat.le_trans ?_ hs
  clear hs hf8
  induction f with
  | nil => exact Nat.le_refl _
  | cons t f ih' =>
   have a1:=(hf t (by simp)).1.pos
   have a2:=ih' fun x hx => hf x (by simp [hx])
   have a3:qQ (t :: f) = t.length + qQ f:=by simp [qQ]
   rw [List.length_cons];omega
 have htk:∀ i,qQ (f.take i) ≤ 8:=fun i => by
  have:qQ (f.take i) + qQ (f.drop i) = qQ f:=by rw [← kE,List.take_append_drop]
  omega
 have hgd:∀ i,GdA (qQ (f.take i)) (antF ant1 (f.take i)):=fun i => by
  have:=GdA.fold (g:=ant1) (f:=f.take i) (out:=[(1,[])]) (m:=0) (fun x hx => kA x.length (hf x (List.mem_of_mem_take hx)).1 (Nat.le_refl _)) wQ
  rw [Nat.zero_add] at this
  exact this
 have hln:∀ i,(antF ant1 (f.take i)).length ≤ 300:=fun i => by
  have h1:=vJ (g:=ant1) (f.take i) [(1,[])] (fun x hx => kT x.length x (hf x (List.mem_of_mem_take hx)).1 (hf x (List.mem_of_mem_take hx)).2.1 (Nat.le_refl _))
  have h2:=eF_le (f.take i)
  have h3:2 ^ eF (f.take i) ≤ 2 ^ 8:=Nat.pow_le_pow_right (by decide) (by have:=htk i;omega)
  rw [List.length_singleton,Nat.one_mul] at h1
  exact Nat.le_trans h1 (by omega)
 refine AFn.of_runs (qX 65) Tryz.func72 rfl rfl rfl gz ?_
 have hres:Tryz.f72.results.toList = [.tmp 2]:=rfl
 have hrts:Tryz.f72.resultTypes.toList = [50]:=rfl
 simp only [qU,qT,eL,eI,eLL,eB,Nat.zero_add,Nat.reduceAdd]
 intro M
 refine qJ.of ?_
 refine gw29 (kk 9) Y0 ?_
 refine qJ.frz 3 ?_
 refine qJ.fits (s0:=⟨[(0,.c (.val (.sl 1 (f.map eL)))),(3,.c (.val (.sl 2 [[.int 1,.sl 1 []]]))),(4,.c (.val (.int 0)))],[]⟩) ?_ ?_
 ·exact gw36
 refine qJ.loop (β:=Nat) (γ:=Unit) (fun i => ⟨[(0,.c (.val (.sl 1 (f.map eL)))),(3,.c (.val (.sl 2 ((antF ant1 (f.take i)).map ePt)))),(4,.c (.val (.int i)))],[]⟩) (fun i => i ≤ f.length) (fun i => f.length - i)
  (fun _ => ⟨[(3,.c (.val (.sl 2 ((ant f).map ePt))))],[]⟩) (fun _ => True) 0 (Nat.zero_le _) ?_ ?_ ?_
 ·exact gw124 (show antF ant1 [] = [(1,[])] from rfl)
 ·intro i hi
  have hi:i ≤ f.length:=hi
  have hw:=qD (n:=i) (by omega)
  have hle:(f.map eL).length = f.length:=List.length_map _
  by_cases h:i < f.length
  ·have i1:((i:Int) < (f.length:Int)) = True:=eq_true (by omega)
   have i2:((0:Int) ≤ (i:Int)) = True:=eq_true (by omega)
   obtain ⟨t,ht⟩:∃ t,t = f[i]:=⟨_,rfl⟩
   have htm:t ∈ f:=by rw [ht];exact List.getElem_mem _
   obtain ⟨t1,t2,t3⟩:=hf t htm
   have t8:=hf8 t htm
   have hg:(f.map eL)[i]? = some [.sl 1 (t.map eI)]:=by rw [qE h,ht];rfl
   have hst:antF ant1 (f.take (i + 1)) = sumS cmpF (prodL (antF ant1 (f.take i)) (ant1 t)):=by
    rw [ht];unfold antF
    rw [List.take_succ_eq_append_getElem h,List.foldl_append];rfl
   have hl1:(ant1 t).length ≤ 300:=by
    have h1:=kT t.length t t1 t2 (Nat.le_refl _)
    have h2:2 ^ (t.length - 1) ≤ 2 ^ 8:=Nat.pow_le_pow_right (by decide) (by omega)
    exact Nat.le_trans h1 (by omega)
   have hpr:=a_l06Times (antF ant1 (f.take i)) (ant1 t) ((hgd i).sz (htk i)) ((kA t.length t1 (Nat.le_refl _)).sz (by omega)) (hln i) hl1
   rw [← hst] at hpr
   have hcu:=AFn.val1 (a_l05Cuts t t1 t2 t8)
   simp only [eL] at hcu
   have hcf:=cut_facts t1 t8
   have hso:=sp_own t1
   obtain ⟨C,hC⟩:∃ C,C = cutsL t:=⟨_,rfl⟩
   have hCl:C.length ≤ 256:=by
    have h1:=kX _ (Nat.le_refl _) t1
    have h2:2 ^ t.length ≤ 2 ^ 8:=Nat.pow_le_pow_right (by decide) t8
    have h3:=(yY (split t)).len
    rw [List.length_map] at h3
    rw [hC];unfold cutsL;rw [List.length_map]
    omega
   rw [← hC] at hcu hcf hso
   have hD:∀ k,OkE (addS cmpF [] ((C.take k).flatMap spM))∧(addS cmpF [] ((C.take k).flatMap spM)).length ≤ 256 * 256:=fun k => by
    have h1:∀ q ∈ (C.take k).flatMap spM,(0 ≤ q.1∧q.1 < 10007)∧SmF q.2:=fun q hq => by
     obtain ⟨c,hc,hq⟩:=List.mem_flatMap.1 hq
     by_cases htn:c.1.2 = []
     ·unfold spM at hq;rw [if_pos htn] at hq;cases hq
     ·obtain ⟨_,b2,b3,_,b5⟩:=(hcf c (List.mem_of_mem_take hc)).2 htn
      exact (sumC_ok b5 b2 b3).2 q hq
    refine ⟨wU OkE.nil h1,?_⟩
    have key:∀ (L:List Cu),(∀ c ∈ L,(spM c).length ≤ 256)→(L.flatMap spM).length ≤ 256 * L.length:=by
     intro L
     induction L with
     | nil => intro _;simp
     | cons c L ihL =>
      intro hL
      rw [List.flatMap_cons,List.length_append,List.length_cons]
      have a1:=hL c (by simp)
      have a2:=ihL fun x hx => hL x (by simp [hx])
      omega
    have h2:=vI ((C.take k).flatMap spM) []
    rw [List.length_nil,Nat.zero_add] at h2
    refine Nat.le_trans h2 (Nat.le_trans (key _ fun c hc => ?_) (Nat.mul_le_mul_left _ (by rw [List.length_take];omega)))
    by_cases htn:c.1.2 = []
    ·unfold spM;rw [if_pos htn];simp
    ·exact spM_len ((hcf c (List.mem_of_mem_take hc)).2 htn).2.2.2.1
   have hleC:(C.map eCu).length = C.length:=List.length_map _
   refine gw138 (kk 9) (Y4 i1 i2 hg hle) ?_
   refine qJ.frz 5 ?_
   refine qJ.fits (s0:=⟨[(0,.c (.val (.sl 1 (f.map eL)))),(3,.c (.val (.sl 2 ((antF ant1 (f.take i)).map ePt)))),(4,.c (.val (.int i))),(5,.c (.val (.sl 2 []))),(6,.c (.val (.sl 3 (C.map eCu)))),(7,.c (.val (.int 0)))],[]⟩) ?_ ?_
   ·exact gw36
   refine qJ.loop (β:=Nat) (γ:=Unit) (fun k => ⟨[(0,.c (.val (.sl 1 (f.map eL)))),(3,.c (.val (.sl 2 ((antF ant1 (f.take i)).map ePt)))),(4,.c (.val (.int i))),(5,.c (.val (.sl 2 ((addS cmpF [] ((C.take k).flatMap spM)).map ePt)))),(6,.c (.val (.sl 3 (C.map eCu)))),(7,.c (.val (.int k)))],[]⟩) (fun k => k ≤ C.length) (fun k => C.length - k)
    (fun _ => ⟨[(0,.c (.val (.sl 1 (f.map eL)))),(3,.c (.val (.sl 2 ((antF ant1 (f.take i)).map ePt)))),(4,.c (.val (.int i))),(5,.c (.val (.sl 2 ((ant1 t).map ePt))))],[]⟩) (fun _ => True) 0 (Nat.zero_le _) ?_ ?_ ?_
   ·exact gw139
   ·intro k hk
    have hk:k ≤ C.length:=hk
    have hwk:=qD (n:=k) (by omega)
    by_cases hkC:k < C.length
    ·have k1:((k:Int) < (C.length:Int)) = True:=eq_true (by omega)
     have k2:((0:Int) ≤ (k:Int)) = True:=eq_true (by omega)
     obtain ⟨c,hcc⟩:∃ c,c = C[k]:=⟨_,rfl⟩
     have hcm:c ∈ C:=by rw [hcc];exact List.getElem_mem _
     have hgc:(C.map eCu)[k]? = some [.sl 1 (c.1.1.map eL),.sl 1 (c.1.2.map eI),.int c.2]:=by rw [qE hkC,hcc];rfl
     obtain ⟨hcb,hct⟩:=hcf c hcm
     obtain ⟨hDk,hDl⟩:=hD k
     have hstk:addS cmpF [] ((C.take (k + 1)).flatMap spM) = addS cmpF (addS cmpF [] ((C.take k).flatMap spM)) (spM c):=by
      rw [hcc,List.take_succ_eq_append_getElem hkC,List.flatMap_append,List.flatMap_cons,List.flatMap_nil,List.append_nil]
      unfold addS;rw [List.foldl_append]
     obtain ⟨K,hK⟩:∃ K,K = addS cmpF [] ((C.take k).flatMap spM):=⟨_,rfl⟩
     rw [← hK] at hstk hDk hDl ⊢
     by_cases htn:c.1.2 = []
     ·have b0:((c.1.2.length:Int) > 0) = False:=eq_false (by rw [htn];simp)
      have he:spM c = []:=by unfold spM;rw [if_pos htn]
      rw [he,addS_nil2] at hstk
      refine gw79 (kk 9) (Y6 k1 k2 hgc hwk hleC b0) ?_
      refine qY.on (k + 1) ⟨hkC,by omega⟩ ?_
      rw [hstk]
      exact gw6 Y0
     ·obtain ⟨c1,c2,c3,c4,c5⟩:=hct htn
      obtain ⟨s1,_⟩:=sumC_ok c5 c2 c3
      have b0:((c.1.2.length:Int) > 0) = True:=eq_true (by omega)
      have hwn:w64 (0 - c.2) = -c.2:=by rw [qL (by omega)];omega
      have he:spM c = mulE (mP (-c.2)) (sumC c):=by unfold spM;rw [if_neg htn]
      rw [he] at hstk
      have hp1:=t1.pos
      have h1:=ih (t.length - 1) (by omega) c.1.1 c1 c2
      have h2:=a_l06Times (ant c.1.1) [(1,[c.1.2])] (c5.sz c2) (fun q hq => by
       obtain rfl:=List.mem_singleton.1 hq
       exact ⟨(⟨by decide,by decide⟩:(0:Int) ≤ 1∧(1:Int) < 10007),by simp,by simp [qQ];omega⟩) (by omega) (by simp)
      have h3:=a_l01Mod (-c.2)
      have hsl:(sumC c).length ≤ 256:=by
       unfold sumC
       refine Nat.le_trans (wW _) ?_
       rw [prodLn,List.length_singleton,Nat.mul_one]
       exact c4
      have h4:=a_l06Add K (sumC c) (mP (-c.2)) hDk s1 (jD _) (by omega)
      rw [← hstk] at h4
      have h2:AFn Tryz.prog 85 [[.sl 2 ((ant c.1.1).map ePt)],[.sl 2 [[.int 1,.sl 1 [[.sl 1 (c.1.2.map eI)]]]]]] (· = [.val (.sl 2 ((sumC c).map ePt))]):=h2
      simp only [eI] at h3 h4
      refine gw79 (kk 9) (Y6 k1 k2 hgc hwk hleC b0) ?_
      refine qJ.frz 41 ?_
      simp only [St.frz,look,frzR,frzH,AV.frz,AC.frz,Obj.frz,drop,List.map_cons,List.map_nil,Nat.reduceEqDiff,if_true,if_false,List.length_cons,List.length_nil]
      refine qJ.fits (s0:=⟨[(0,.c (.val (.sl 1 (f.map eL)))),(3,.c (.val (.sl 2 ((antF ant1 (f.take i)).map ePt)))),(4,.c (.val (.int i))),(5,.c (.val (.sl 2 (K.map ePt)))),(6,.c (.val (.sl 3 (C.map eCu)))),(7,.c (.val (.int k))),(8,.c (.own 8 1))],[(8,.lit 2 [[.val (.int 1),.val (.sl 1 [[.sl 1 (c.1.2.map eI)]])]])]⟩) ?_ ?_
      ·exact gw131
      refine qJ.litRow 8 [.int 1,.sl 1 [[.sl 1 (c.1.2.map eI)]]] rfl ?_
      simp only [insR,Nat.reduceEqDiff,Nat.reduceLT,if_true,if_false]
      refine qJ.frz 8 ?_
      simp only [St.frz,look,frzR,frzH,AV.frz,AC.frz,Obj.frz,drop,List.map_cons,List.map_nil,Nat.reduceEqDiff,if_true,if_false,List.length_cons,List.length_nil]
      refine qJ.fits (s0:=⟨[(0,.c (.val (.sl 1 (f.map eL)))),(3,.c (.val (.sl 2 ((antF ant1 (f.take i)).map ePt)))),(4,.c (.val (.int i))),(5,.c (.val (.sl 2 (K.map ePt)))),(6,.c (.val (.sl 3 (C.map eCu)))),(7,.c (.val (.int k))),(8,.c (.val (.sl 2 [[.int 1,.sl 1 [[.sl 1 (c.1.2.map eI)]]]])))],[]⟩) ?_ ?_
      ·exact gw6 Y0
      refine gw140 (kk 9) (Y6 k1 k2 hgc hwk hwn hleC) ?_
      refine qY.on (k + 1) ⟨hkC,by omega⟩ ?_
      exact gw6 Y0
    ·have k1:((k:Int) < (C.length:Int)) = False:=eq_false (by omega)
     obtain rfl:k = C.length:=by omega
     rw [List.take_length,hso]
     refine gw29 (kk 9) (Yp k1 hleC) ?_
     refine qY.out () trivial ?_
     exact gw6 Y0
   ·rintro _ _
    refine gw141 (kk 9) hw ?_
    refine qY.on (i + 1) ⟨h,by omega⟩ ?_
    exact gw6 Y0
  ·have i1:((i:Int) < (f.length:Int)) = False:=eq_false (by omega)
   obtain rfl:i = f.length:=by omega
   rw [List.take_length]
   refine gw29 (kk 9) (Yp i1 hle) ?_
   refine qY.out () trivial ?_
   exact gw6 Y0
 ·rintro _ _
  refine gw29 (kk 9) Y0 ?_
  exact gw8
theorem ofS_all (n:Nat):OfS n:=by
 induction n using Nat.strongRecOn with
 | _ n ih => exact a_l06Antipode1 n ih
theorem ant_okE {f:List (List Int)} {m:Nat} (hg:GdA m (ant f)) (hm:m ≤ 8):OkE (ant f):=fun q hq => by
 have h1:=hg q hq
 have h2:=gd_len hg q hq
 refine ⟨?_,by omega,by omega⟩
 rcases List.eq_nil_or_concat f with rfl|⟨f',t,rfl⟩
 ·obtain rfl:=List.mem_singleton.1 (show q ∈ [(1,[])] from hq)
  exact (⟨by decide,by decide⟩:(1:Int) ≤ 1∧(1:Int) < 10007)
 ·have e:ant (f'.concat t) = sumS cmpF (prodL (antF ant1 f') (ant1 t)):=by
   unfold ant antF
   rw [List.concat_eq_append,List.foldl_append];rfl
  rw [e] at hq
  exact (xH jV (M:=prodL (antF ant1 f') (ant1 t)) fun q hq => by
   unfold prodL at hq
   obtain ⟨p,_,hq⟩:=List.mem_flatMap.1 hq
   obtain ⟨r,_,rfl⟩:=List.mem_map.1 hq
   exact jD _).2 q hq
theorem a_spec_AntipodeOf (e:Elt) (hz:szP e):∃ b,AFn Tryz.prog 23 [[.sl 2 (e.map ePt)]] (· = [.own 2 ((antOf e).1.map ePt) b,.val (.int (antOf e).2)]):=by
 have h1:=a_l06Is e hz
 unfold antOf
 by_cases hE:elB e = true
 rotate_left
 ·have hE':elB e = false:=by simpa using hE
  rw [if_neg hE]
  rw [hE'] at h1
  refine ⟨true,?_⟩
  refine AFn.of_runs (qX 33) Tryz.func23 rfl rfl rfl gz ?_
  have hres:Tryz.f23.results.toList = [.tmp 2,.tmp 3]:=rfl
  have hrts:Tryz.f23.resultTypes.toList = [50,2]:=rfl
  simp only [qU,qT,eL,eI,eLL,eB,Nat.zero_add,Nat.reduceAdd]
  intro M
  refine qJ.of ?_
  refine gw142 (kk 6) ?_
  exact gw8
 rw [hE] at h1
 rw [if_pos hE,antM_mulE]
 have hok:=vP hE
 have hld:=hok.2.1
 have hfor:∀ p ∈ e,(∀ t ∈ p.2,qZ t∧canon t = t∧t.length ≤ 8)∧qQ p.2 ≤ 8:=fun p hp => by
  have hb:=(yE hE).2.2.2 p hp
  have hs:=(forB_tree' hb).2
  exact ⟨fun t ht => ⟨vZ hb t ht,forB_can hb t ht,by have:=jK ht;omega⟩,hs⟩
 have hcf:∀ p ∈ e,0 ≤ p.1∧p.1 < 10007:=fun p hp => by have:=(hok.1 p hp).1;omega
 have hgd:∀ p ∈ e,GdA (qQ p.2) (ant p.2):=fun p hp => by
  have:=GdA.fold (g:=ant1) (f:=p.2) (out:=[(1,[])]) (m:=0) (fun x hx => kA x.length ((hfor p hp).1 x hx).1 (Nat.le_refl _)) wQ
  rw [Nat.zero_add] at this
  exact this
 have hao:∀ p ∈ e,OkE (ant p.2):=fun p hp => ant_okE (hgd p hp) (hfor p hp).2
 have hln:∀ p ∈ e,(ant p.2).length ≤ 256:=fun p hp => by
  have h1:=vJ (g:=ant1) p.2 [(1,[])] (fun x hx => kT x.length x ((hfor p hp).1 x hx).1 ((hfor p hp).1 x hx).2.1 (Nat.le_refl _))
  have h2:=eF_le p.2
  have h3:2 ^ eF p.2 ≤ 2 ^ 8:=Nat.pow_le_pow_right (by decide) (by have:=(hfor p hp).2;omega)
  rw [List.length_singleton,Nat.one_mul] at h1
  exact Nat.le_trans h1 h3
 obtain ⟨gm,hgm⟩:∃ gm,gm = fun p:Int × List (List Int) => mulE p.1 (ant p.2):=⟨_,rfl⟩
 rw [← hgm]
 have hD:∀ k,OkE (addS cmpF [] ((e.take k).flatMap gm))∧(addS cmpF [] ((e.take k).flatMap gm)).length ≤ 76800:=fun k => by
  have h1:∀ q ∈ (e.take k).flatMap gm,(0 ≤ q.1∧q.1 < 10007)∧SmF q.2:=fun q hq => by
   obtain ⟨p,hp,hq⟩:=List.mem_flatMap.1 hq
   rw [hgm] at hq
   exact mulE_ok (hao p (List.mem_of_mem_take hp)) q hq
  refine ⟨wU OkE.nil h1,?_⟩
  have key:∀ (L:Elt),(∀ p ∈ L,(gm p).length ≤ 256)→(L.flatMap gm).length ≤ 256 * L.length:=by
   intro L
   induction L with
   | nil => intro _;simp
   | cons c L ihL =>
    intro hL
    rw [List.flatMap_cons,List.length_append,List.length_cons]
    have a1:=hL c (by simp)
    have a2:=ihL fun x hx => hL x (by simp [hx])
    omega
  have h2:=vI ((e.take k).flatMap gm) []
  rw [List.length_nil,Nat.zero_add] at h2
  have h3:=key (e.take k) fun p hp => by
   rw [hgm];unfold mulE;rw [List.length_map]
   exact hln p (List.mem_of_mem_take hp)
  rw [List.length_take] at h3
  omega
 obtain ⟨b,h4⟩:=a_l06Own (addS cmpF [] (e.flatMap gm)) (by have:=(hD e.length).1;rw [List.take_length] at this;exact this) (by have:=(hD e.length).2;rw [List.take_length] at this;omega)
 have h4:AFn Tryz.prog 73 [[.sl 2 ((addS cmpF [] (e.flatMap gm)).map ePt)]] (· = [.own 2 ((limS (sumS cmpF (e.flatMap gm))).1.map ePt) b,.val (.int (limS (sumS cmpF (e.flatMap gm))).2)]):=h4
 refine ⟨b,?_⟩
 refine AFn.of_runs (qX 33) Tryz.func23 rfl rfl rfl gz ?_
 have hres:Tryz.f23.results.toList = [.tmp 2,.tmp 3]:=rfl
 have hrts:Tryz.f23.resultTypes.toList = [50,2]:=rfl
 simp only [qU,qT,eL,eI,eLL,eB,Nat.zero_add,Nat.reduceAdd]
 intro M
 refine qJ.of ?_
 refine gw142 (kk 6) ?_
 refine qJ.frz 4 ?_
 refine qJ.fits (s0:=⟨[(0,.c (.val (.sl 2 (e.map ePt)))),(4,.c (.val (.sl 2 []))),(5,.c (.val (.int 0)))],[]⟩) ?_ ?_
 ·exact gw36
 refine qJ.loop (β:=Nat) (γ:=Unit) (fun i => ⟨[(0,.c (.val (.sl 2 (e.map ePt)))),(4,.c (.val (.sl 2 ((addS cmpF [] ((e.take i).flatMap gm)).map ePt)))),(5,.c (.val (.int i)))],[]⟩) (fun i => i ≤ e.length) (fun i => e.length - i)
  (fun _ => ⟨[(4,.c (.val (.sl 2 ((addS cmpF [] (e.flatMap gm)).map ePt))))],[]⟩) (fun _ => True) 0 (Nat.zero_le _) ?_ ?_ ?_
 ·exact gw139
 ·intro i hi
  have hi:i ≤ e.length:=hi
  have hw:=qD (n:=i) (by omega)
  have hle:(e.map ePt).length = e.length:=List.length_map _
  by_cases h:i < e.length
  ·have i1:((i:Int) < (e.length:Int)) = True:=eq_true (by omega)
   have i2:((0:Int) ≤ (i:Int)) = True:=eq_true (by omega)
   obtain ⟨p,hp⟩:∃ p,p = e[i]:=⟨_,rfl⟩
   have hpm:p ∈ e:=by rw [hp];exact List.getElem_mem _
   have hg:(e.map ePt)[i]? = some [.int p.1,.sl 1 (p.2.map eL)]:=by rw [qE h,hp];rfl
   have hst:addS cmpF [] ((e.take (i + 1)).flatMap gm) = addS cmpF (addS cmpF [] ((e.take i).flatMap gm)) (mulE p.1 (ant p.2)):=by
    rw [hp,List.take_succ_eq_append_getElem h,List.flatMap_append,List.flatMap_cons,List.flatMap_nil,List.append_nil]
    unfold addS;rw [List.foldl_append,hgm]
   obtain ⟨hDk,hDl⟩:=hD i
   obtain ⟨K,hK⟩:∃ K,K = addS cmpF [] ((e.take i).flatMap gm):=⟨_,rfl⟩
   rw [← hK] at hst hDk hDl ⊢
   have h2:=ofS_all 8 p.2 (hfor p hpm).1 (hfor p hpm).2
   have h3:=a_l06Add K (ant p.2) p.1 hDk (hao p hpm) (hcf p hpm) (by have:=hln p hpm;omega)
   rw [← hst] at h3
   simp only [eI] at h3
   refine gw143 (kk 6) (Y5 i1 i2 hg hw hle) ?_
   refine qY.on (i + 1) ⟨h,by omega⟩ ?_
   exact gw6 Y0
  ·have i1:((i:Int) < (e.length:Int)) = False:=eq_false (by omega)
   obtain rfl:i = e.length:=by omega
   rw [List.take_length]
   refine gw29 (kk 6) (Yp i1 hle) ?_
   refine qY.out () trivial ?_
   exact gw6 Y0
 ·rintro _ _
  refine gw144 (kk 6) ?_
  exact gw8
end
section
structure EmA (d e p:Elt):Prop where
 bd:elB d = true
 be:elB e = true
 bp:elB p = true
 q:timOf e d = (p,0)
 deg:(degE p = -1∧(degE d = -1 ∨ degE e = -1)) ∨ (degE p = degE d + degE e∧degE d ≠ -1∧degE e ≠ -1∧degE p ≠ -1)
 two:∃ s,sclOf p 2 = (s,0)∧elB s = true
def dotE:Elt:=[(1,[[0]])]
structure EmB (f g s:Elt):Prop where
 bf:elB f = true
 bg:elB g = true
 bs:elB s = true
 minus:∃ m,sclOf g 10006 = (m,0)∧addOf s m = (f,0)
 dist:∃ a x b y h z u v,timOf s dotE = (a,x)∧timOf f dotE = (b,y)∧timOf g dotE = (h,z)∧addOf b h = (u,v)∧(x = 0 ∨ x = 3)∧(y = 0 ∨ y = 3)∧(z = 0 ∨ z = 3)∧(v = 0 ∨ v = 3)∧(x = 0→y = 0→z = 0→v = 0→a = u)
end
section
def lastBig (t:List Int):Nat→Nat
 | 0 => 0
 | p + 1 => if t.getD p 0 ≤ 1 then lastBig t p else p + 1
def lastEq (t:List Int) (l:Int):Nat→Nat
 | 0 => 0
 | q + 1 => if t.getD q 0 = l then q else lastEq t l q
def copyFrom (p q:Nat):Nat→List Int→List Int
 | 0,t => t
 | k + 1,t => (copyFrom p q k t).set (p + k) ((copyFrom p q k t).getD (p + k - (p - q)) 0)
def nextT (t:List Int):Option (List Int) :=
 match lastBig t t.length with
 | 0 => none
 | p + 1 => some (copyFrom p (lastEq t (t.getD p 0 - 1) p) (t.length - p) t)
def treesF:Nat→List Int→List (List Int)
 | 0,_ => []
 | f + 1,t => t :: match nextT t with
  | none => []
  | some s => treesF f s
def treesN (n:Nat):List (List Int):=treesF 120 ((List.range n).map fun (i:Nat) => (i:Int))
end
section
end
section
def allTo (n:Nat):List (List Int):=(List.range n).flatMap fun k => treesN (k + 1)
def posT (t:List Int):Nat:=(allTo 8).idxOf t
end
section
def plc (t:List Int):Int:=(posT t:Int) + 1
end
section
def valM (a:List Int) (ps:List Int):Int:=ps.foldl (fun o p => mP (o * a.getD p.toNat 0)) 1
end
section
def long6 (f:List (List Int)):Bool:=f.any fun t => decide (6 < t.length)
def vatOf (a:List Int) (f:List (List Int)):Int × Int:=if isMap a = true∧forB f = true then (if long6 f = true then (0,2) else (valM a (f.map plc),0)) else (0,1)
end
section
section
variable {F:Spl→Int} (hF:∀ s c,F (catS s c) = F s * F c)
include hF
def mulL:List Int→Int
 | [] => 1
 | x :: l => x * mulL l
end
def v9 (a b:List Int):List (Int × Spl)→Int→Int
 | [],out => out
 | q :: L,out => if (vatOf a q.2.1).2 = 0∧(vatOf b q.2.2).2 = 0 then v9 a b L (mP (out + mP (q.1 * mP ((vatOf a q.2.1).1 * (vatOf b q.2.2).1)))) else -1
theorem okF_forB {f:List (List Int)} (h:OkF f) (h8:qQ f ≤ 8):forB f = true:=forB_of h8 (fun t ht => by
  unfold canT
  rw [Bool.and_eq_true]
  exact ⟨lev8_mk (h.1 t ht).1 (by have:=jK ht;omega),decide_eq_true (h.1 t ht).2⟩) h.2
end
end Go.Proofs.YtedgfkpfhonlpaaGreat

/- Lemmas (12). -/
import Derived.Test.YtedgfkpfhonlpaaZF0
import Derived.Test.YtedgfkpfhonlpaaZF7
import Derived.Test.YtedgfkpfhonlpaaZF8
import Derived.Test.YtedgfkpfhonlpaaZF9
import Derived.Test.YtedgfkpfhonlpaaZF10
import Derived.Test.YtedgfkpfhonlpaaZF11
set_option linter.unusedSimpArgs false
set_option linter.unusedVariables false
namespace Go.Proofs.Ytedgfkpfhonlpaa
open Go.RowKit
section
variable {P:Program} {cfg:Cfg} {M:Nat→Prop} {ops:Array Oper} {s:St}
theorem bstr_app (p q:List UInt8):Value.string ((⟨p.toArray⟩:ByteArray) ++ ⟨q.toArray⟩) = bstr (p ++ q):=by
 unfold bstr
 rw [ByteArray.mk_append_mk]
theorem ROps.bAdd {o:Oper} {l:List Oper} {Q:St→Prop} {x y:Operand} {t u:TypeId} {d:Nat} {p q:List UInt8} (ho:o.op = .binOp .add t x y u) (hw:awanted ops s.regs o = some true) (hd:o.dst = some d) (hdN:d < cfg.N)
  (hx:(opv s.regs x).bind avD = some (.raw (bstr p))) (hy:(opv s.regs y).bind avD = some (.raw (bstr q))) (hs:p.length + q.length ≤ 1000000000) (h:ROps P cfg M ops l Q ⟨insR d (dval (.raw (bstr (p ++ q)))) s.regs,s.heap⟩):ROps P cfg M ops (o :: l) Q s:=by
 refine ROps.strAdd ho hw hd hdN hx hy hs ?_
 rw [bstr_app]
 exact h
theorem ROps.bEq {o:Oper} {l:List Oper} {Q:St→Prop} {x y:Operand} {t u:TypeId} {d:Nat} {p q:List UInt8} (ho:o.op = .binOp .eql t x y u) (hw:awanted ops s.regs o = some true) (hd:o.dst = some d) (hdN:d < cfg.N)
  (hx:(opv s.regs x).bind avD = some (.raw (bstr p))) (hy:(opv s.regs y).bind avD = some (.raw (bstr q))) (h:ROps P cfg M ops l Q ⟨insR d (dval (.bool (p == q))) s.regs,s.heap⟩):ROps P cfg M ops (o :: l) Q s:=by
 refine ROps.strEq ho hw hd hdN hx hy ?_
 rw [ByteArray.toList_eq,ByteArray.toList_eq]
 simpa using h
end
noncomputable def TTx:Tab Try.prog:=Tab.none.add 55 (tab1 codL fun t => if lev8 t = true then some [.val (.raw (bstr (txtF 8 t)))] else none) (tab1_ok fun t rs h => by split at h;cases h;exact a_treeText 8 t (lev8_lev ‹_›) (lev8_len ‹_›) (by have:=lev8_len ‹_›;omega);cases h)
def shwF (f:List (List Int)):List UInt8:=f.flatMap (txtF 8)
def shwD (f:List (List Int)):List UInt8:=if f = [] then [45] else shwF f
theorem shwF_len:∀ {f:List (List Int)},(∀ b ∈ f,lev8 b = true)→(shwF f).length = 2 * sumLen f:=fun h => flat_len (txtF 8) _ (fun b hb => txtF_len 8 b (lev8_lev (h b hb)) (lev8_len (h b hb)))
theorem sumLen_le8:∀ {f:List (List Int)},(∀ b ∈ f,lev8 b = true)→sumLen f ≤ 8 * f.length
 | [],_ => by simp [sumLen]
 | b :: f,h => by
  have h1:=lev8_len (h b (by simp))
  have h2:=sumLen_le8 (f:=f) (fun x hx => h x (by simp [hx]))
  simp only [sumLen,List.map_cons,List.sum_cons,List.length_cons] at h2 ⊢
  omega
set_option maxHeartbeats 8000000 in
theorem a_forestText (f:List (List Int)) (hf:∀ b ∈ f,lev8 b = true) (hl:f.length ≤ 100):AFn Try.prog 66 [eLL f] (· = [.val (.raw (bstr (shwD f)))]):=by
 have hlm:(f.map eL).length = f.length:=List.length_map _
 have hsh:=shwF_len hf
 have hS:=sumLen_le8 hf
 unfold shwD
 simp only [eLL]
 refine AFn.of_runs (cfg_ok 21) Try.func66 rfl rfl rfl (by simp only [List.length_cons,List.length_nil];decide) ?_
 have hres:Try.f66.results.toList = [.tmp 2]:=rfl
 have hrts:Try.f66.resultTypes.toList = [9]:=rfl
 simp only [argRegs,argAV1,eL,eI,eLL,eB,Nat.zero_add,Nat.reduceAdd]
 intro M
 refine RunK.of ?_
 by_cases h0:f = []
 ·have b0:((f.length:Int) == 0) = true:=by rw [h0];rfl
  rw [if_pos h0,show bstr [45] = Value.string ⟨#[45]⟩ from rfl]
  repeat' (first|with_reducible (first|refine Q1 ?_|refine Q2 ?_|refine Q3 ?_|refine Q4 ?_|refine Q5 ?_|refine Q6 ?_|refine Q7 ?_|refine Q8 ?_|refine Q9 ?_|refine Qa ?_|refine Qb ?_|refine Qc ?_|refine Qd ?_|refine Qe ?_|refine Qf ?_)|((with_reducible refine Qo ?_ ?_);focus rfl)|((with_reducible first|refine QT 12 (l:=?_) ?_ ?_|refine QF 12 (l:=?_) ?_ ?_);rotate_left 1;focus (simp only [Zu,Nat.reduceSub,Nat.reduceBEq];with_reducible rfl))|((with_reducible first|refine QS (cfg_ok 21) Tab.none (s':=?_) ?_ ?_|refine QC (b:=?_) ?_ ?_);rotate_left 1;focus ((with_reducible refine QW ?_);simp only [Zg,seval,if_true,if_false,reduceCtorEq,Nat.reduceEqDiff,hlm,b0];with_reducible rfl)))
  (refine Ends.mk (by simp) (rs:=?_) (ks:=?_) hres hrts ?_ ?_ ?_;rotate_left 2;(focus (simp only [Ze,Zg,seval,if_true,if_false,reduceCtorEq,Nat.reduceEqDiff];with_reducible rfl));(focus simp);focus (first|with_reducible rfl|(simp only [Zv];done)))
 rw [if_neg h0]
 have hfl:0 < f.length:=List.length_pos_iff.2 h0
 have b0:((f.length:Int) == 0) = false:=beq_eq_false_iff_ne.2 (by omega)
 repeat' (first|with_reducible (first|refine Q1 ?_|refine Q2 ?_|refine Q3 ?_|refine Q4 ?_|refine Q5 ?_|refine Q6 ?_|refine Q7 ?_|refine Q8 ?_|refine Q9 ?_|refine Qa ?_|refine Qb ?_|refine Qc ?_|refine Qd ?_|refine Qe ?_|refine Qf ?_)|((with_reducible refine Qo ?_ ?_);focus rfl)|((with_reducible first|refine QT 12 (l:=?_) ?_ ?_|refine QF 12 (l:=?_) ?_ ?_);rotate_left 1;focus (simp only [Zu,Nat.reduceSub,Nat.reduceBEq];with_reducible rfl))|((with_reducible first|refine QS (cfg_ok 21) Tab.none (s':=?_) ?_ ?_|refine QC (b:=?_) ?_ ?_);rotate_left 1;focus ((with_reducible refine QW ?_);simp only [Zg,seval,if_true,if_false,reduceCtorEq,Nat.reduceEqDiff,hlm,b0];with_reducible rfl)))
 refine RunK.loop (β:=Nat) (γ:=Unit) (fun k => ⟨[(3,.c (.val (.raw (bstr (shwF (f.take k)))))),(9,.c (.val (.sl 1 (f.map eL)))),(10,.c (.val (.int f.length))),(11,.c (.val (.int k)))],[]⟩) (fun k => k ≤ f.length) (fun k => f.length - k)
  (fun _ => ⟨[(3,.c (.val (.raw (bstr (shwF f)))))],[]⟩) (fun _ => True) 0 (Nat.zero_le _) ?_ ?_ ?_
 ·(repeat' (first|with_reducible refine Qn|((with_reducible refine Qr ?_ ?_);focus (first|with_reducible rfl|(simp only [Zz,Nat.reduceBEq,List.take_zero,show bstr (shwF []) = Value.string ⟨#[]⟩ from rfl,Int.natCast_zero];done)|rfl))|((with_reducible refine Qj (o':=?_) ?_ ?_ ?_);rotate_left 1;focus rfl)|((with_reducible refine Qw ?_ ?_);(focus (first|with_reducible rfl|(simp only [Zv,List.take_zero,show bstr (shwF []) = Value.string ⟨#[]⟩ from rfl,Int.natCast_zero];done)));focus (first|exact id|exact (fun h => nomatch h)|exact (fun _ => rfl)))))
 ·intro k hk
  have hk:k ≤ f.length:=hk
  have hw:=w64_succ (n:=k) (by omega)
  by_cases h:k < f.length
  ·have i1:((k:Int) < (f.length:Int)) = True:=eq_true (by omega)
   have i2:((0:Int) ≤ (k:Int)) = True:=eq_true (by omega)
   obtain ⟨b,hb⟩:∃ b,b = f[k]:=⟨_,rfl⟩
   have hg:(f.map eL)[k]? = some [.sl 1 (b.map eI)]:=by rw [map_get h,hb];rfl
   have hbl:=hf b (by rw [hb];exact List.getElem_mem _)
   have hb8:=lev8_len hbl
   have htl:=txtF_len 8 b (lev8_lev hbl) hb8
   have htk:shwF (f.take (k + 1)) = shwF (f.take k) ++ txtF 8 b:=by
    unfold shwF
    rw [List.take_succ_eq_append_getElem h,List.flatMap_append,hb];simp
   have htl2:=shwF_len (f:=f.take k) (fun x hx => hf x (List.mem_of_mem_take hx))
   have htl3:=sumLen_take f k
   obtain ⟨X,hX⟩:∃ X,X = shwF (f.take k):=⟨_,rfl⟩
   rw [← hX] at htk htl2 ⊢
   repeat' (first|with_reducible (first|refine Q1 ?_|refine Q2 ?_|refine Q3 ?_|refine Q4 ?_|refine Q5 ?_|refine Q6 ?_|refine Q7 ?_|refine Q8 ?_|refine Q9 ?_|refine Qa ?_|refine Qb ?_|refine Qc ?_|refine Qd ?_|refine Qe ?_|refine Qf ?_)|((with_reducible refine Qo ?_ ?_);focus rfl)|((with_reducible first|refine QT 12 (l:=?_) ?_ ?_|refine QF 12 (l:=?_) ?_ ?_);rotate_left 1;focus (simp only [Zu,Nat.reduceSub,Nat.reduceBEq];with_reducible rfl))|((with_reducible first|refine QS (cfg_ok 21) Tab.none (s':=?_) ?_ ?_|refine QC (b:=?_) ?_ ?_);rotate_left 1;focus ((with_reducible refine QW ?_);simp only [Zg,seval,if_true,if_false,reduceCtorEq,Nat.reduceEqDiff,i1,i2,hg,hlm,Int.toNat_natCast];with_reducible rfl)))
   ((repeat' (first|with_reducible (first|refine Q1 ?_|refine Q2 ?_|refine Q3 ?_|refine Q4 ?_|refine Q5 ?_|refine Q6 ?_|refine Q7 ?_|refine Q8 ?_|refine Q9 ?_|refine Qa ?_|refine Qb ?_|refine Qc ?_|refine Qd ?_|refine Qe ?_|refine Qf ?_)|((with_reducible refine Qo ?_ ?_);focus rfl)|((with_reducible first|refine QT 12 (l:=?_) ?_ ?_|refine QF 12 (l:=?_) ?_ ?_);rotate_left 1;focus (simp only [Zu,Nat.reduceSub,Nat.reduceBEq];with_reducible rfl))|((with_reducible refine QC (b:=?_) ?_ ?_);rotate_left 1;focus ((with_reducible refine QW ?_);simp only [Zg,seval,if_true,if_false,reduceCtorEq,Nat.reduceEqDiff,TTx,TTx,hbl];with_reducible rfl))));(with_reducible refine RunK.regCut (cfg_ok 21) TTx 3 (s1:=?_) ?_ ?_);rotate_left 1;(focus ((with_reducible refine QW ?_);simp only [Zg,seval,if_true,if_false,reduceCtorEq,Nat.reduceEqDiff,TTx,TTx,hbl];with_reducible rfl));simp only [List.toList_toArray,List.drop_succ_cons,List.drop_zero])
   refine ROps.bAdd (d:=18) rfl (by rfl) rfl (by decide) rfl rfl (by omega) ?_
   rw [← htk]
   (refine ROps.opsT (cfg_ok 21) (T:=Tab.none) (s':=?_) ?_ ?_;rotate_left 1;focus (simp only [Zg,seval,if_true,if_false,reduceCtorEq,Nat.reduceEqDiff];with_reducible rfl))
   repeat' (first|with_reducible (first|refine Q1 ?_|refine Q2 ?_|refine Q3 ?_|refine Q4 ?_|refine Q5 ?_|refine Q6 ?_|refine Q7 ?_|refine Q8 ?_|refine Q9 ?_|refine Qa ?_|refine Qb ?_|refine Qc ?_|refine Qd ?_|refine Qe ?_|refine Qf ?_)|((with_reducible refine Qo ?_ ?_);focus rfl)|((with_reducible first|refine QT 12 (l:=?_) ?_ ?_|refine QF 12 (l:=?_) ?_ ?_);rotate_left 1;focus (simp only [Zu,Nat.reduceSub,Nat.reduceBEq];with_reducible rfl))|((with_reducible first|refine QS (cfg_ok 21) Tab.none (s':=?_) ?_ ?_|refine QC (b:=?_) ?_ ?_);rotate_left 1;focus ((with_reducible refine QW ?_);simp only [Zg,seval,if_true,if_false,reduceCtorEq,Nat.reduceEqDiff,hw];with_reducible rfl)))
   refine roundK.on (k + 1) ⟨h,by omega⟩ ?_
   (repeat' (first|with_reducible refine Qn|((with_reducible refine Qr ?_ ?_);focus (first|with_reducible rfl|(simp only [Zz,Nat.reduceBEq];done)|rfl))|((with_reducible refine Qj (o':=?_) ?_ ?_ ?_);rotate_left 1;focus rfl)|((with_reducible refine Qw ?_ ?_);(focus (first|with_reducible rfl|(simp only [Zv];done)));focus (first|exact id|exact (fun h => nomatch h)|exact (fun _ => rfl)))))
  ·obtain rfl:k = f.length:=by omega
   have i1:(((f.length:Nat):Int) < (f.length:Int)) = False:=eq_false (by omega)
   rw [List.take_length]
   repeat' (first|with_reducible (first|refine Q1 ?_|refine Q2 ?_|refine Q3 ?_|refine Q4 ?_|refine Q5 ?_|refine Q6 ?_|refine Q7 ?_|refine Q8 ?_|refine Q9 ?_|refine Qa ?_|refine Qb ?_|refine Qc ?_|refine Qd ?_|refine Qe ?_|refine Qf ?_)|((with_reducible refine Qo ?_ ?_);focus rfl)|((with_reducible first|refine QT 12 (l:=?_) ?_ ?_|refine QF 12 (l:=?_) ?_ ?_);rotate_left 1;focus (simp only [Zu,Nat.reduceSub,Nat.reduceBEq];with_reducible rfl))|((with_reducible first|refine QS (cfg_ok 21) Tab.none (s':=?_) ?_ ?_|refine QC (b:=?_) ?_ ?_);rotate_left 1;focus ((with_reducible refine QW ?_);simp only [Zg,seval,if_true,if_false,reduceCtorEq,Nat.reduceEqDiff,i1];with_reducible rfl)))
   refine roundK.out () trivial ?_
   (repeat' (first|with_reducible refine Qn|((with_reducible refine Qr ?_ ?_);focus (first|with_reducible rfl|(simp only [Zz,Nat.reduceBEq];done)|rfl))|((with_reducible refine Qj (o':=?_) ?_ ?_ ?_);rotate_left 1;focus rfl)|((with_reducible refine Qw ?_ ?_);(focus (first|with_reducible rfl|(simp only [Zv];done)));focus (first|exact id|exact (fun h => nomatch h)|exact (fun _ => rfl)))))
 ·rintro ⟨⟩ -
  repeat' (first|with_reducible (first|refine Q1 ?_|refine Q2 ?_|refine Q3 ?_|refine Q4 ?_|refine Q5 ?_|refine Q6 ?_|refine Q7 ?_|refine Q8 ?_|refine Q9 ?_|refine Qa ?_|refine Qb ?_|refine Qc ?_|refine Qd ?_|refine Qe ?_|refine Qf ?_)|((with_reducible refine Qo ?_ ?_);focus rfl)|((with_reducible first|refine QT 12 (l:=?_) ?_ ?_|refine QF 12 (l:=?_) ?_ ?_);rotate_left 1;focus (simp only [Zu,Nat.reduceSub,Nat.reduceBEq];with_reducible rfl))|((with_reducible first|refine QS (cfg_ok 21) Tab.none (s':=?_) ?_ ?_|refine QC (b:=?_) ?_ ?_);rotate_left 1;focus ((with_reducible refine QW ?_);simp only [Zg,seval,if_true,if_false,reduceCtorEq,Nat.reduceEqDiff];with_reducible rfl)))
  (refine Ends.mk (by simp) (rs:=?_) (ks:=?_) hres hrts ?_ ?_ ?_;rotate_left 2;(focus (simp only [Ze,Zg,seval,if_true,if_false,reduceCtorEq,Nat.reduceEqDiff];with_reducible rfl));(focus simp);focus (first|with_reducible rfl|(simp only [Zv];done)))
end Go.Proofs.Ytedgfkpfhonlpaa
namespace Go.Proofs.Ytedgfkpfhonlpaa
open Go.RowKit
set_option maxHeartbeats 4000000 in
theorem a_l03Forest (f:List (List Int)) (hsz:sumLen f ≤ 1048576) (hln:f.length ≤ 1048576):AFn Try.prog 63 [eLL f] (· = [.val (.bool (forB f))]):=by
 have hn:nodesB f = sumLen f:=nodesB_eq f (by omega)
 refine AFn.of_runs (cfg_ok 35) Try.func63 rfl rfl rfl (by simp only [List.length_cons,List.length_nil];decide) ?_
 have hres:Try.f63.results.toList = [.tmp 2]:=rfl
 have hrts:Try.f63.resultTypes.toList = [4]:=rfl
 simp only [argRegs,argAV1,eL,eI,eLL,eB,Nat.zero_add,Nat.reduceAdd]
 intro M
 refine RunK.of ?_
 repeat' (first|with_reducible (first|refine Q1 ?_|refine Q2 ?_|refine Q3 ?_|refine Q4 ?_|refine Q5 ?_|refine Q6 ?_|refine Q7 ?_|refine Q8 ?_|refine Q9 ?_|refine Qa ?_|refine Qb ?_|refine Qc ?_|refine Qd ?_|refine Qe ?_|refine Qf ?_)|((with_reducible refine Qo ?_ ?_);focus rfl)|((with_reducible first|refine QT 4 (l:=?_) ?_ ?_|refine QF 4 (l:=?_) ?_ ?_);rotate_left 1;focus (simp only [Zu,Nat.reduceSub,Nat.reduceBEq];with_reducible rfl))|((with_reducible first|refine QS (cfg_ok 35) TForS (s':=?_) ?_ ?_|refine QC (b:=?_) ?_ ?_);rotate_left 1;focus ((with_reducible refine QW ?_);simp only [Zg,seval,if_true,if_false,reduceCtorEq,Nat.reduceEqDiff,TForS,eL];with_reducible rfl))|((with_reducible refine QD (cfg_ok 35) TForS mixed_ok (tr:=?_) (s':=?_) ?_ ?_ ?_);rotate_left 2;(focus ((with_reducible refine QW ?_);simp only [Zg,Zd,seval,if_true,if_false,reduceCtorEq,Nat.reduceEqDiff,TForS,eL];with_reducible rfl));focus ((with_reducible refine QK ?_);simp only [Zk];kernel_rfl)))
 refine RunK.loop (β:=Nat) (γ:=Unit) (fun i => ⟨[(0,.c (.val (.sl 1 (f.map eL)))),(3,.c (.val (.int i)))],[]⟩) (fun i => i ≤ f.length∧(List.range i).all (okT f) = true) (fun i => f.length - i)
  (fun _ => ⟨[(0,.c (.val (.sl 1 (f.map eL))))],[]⟩) (fun _ => (List.range f.length).all (okT f) = true) 0 ⟨Nat.zero_le _,rfl⟩ ?_ ?_ ?_
 ·(repeat' (first|with_reducible refine Qn|((with_reducible refine Qr ?_ ?_);focus (first|with_reducible rfl|(simp only [Zz,Nat.reduceBEq];done)|rfl))|((with_reducible refine Qj (o':=?_) ?_ ?_ ?_);rotate_left 1;focus rfl)|((with_reducible refine Qw ?_ ?_);(focus (first|with_reducible rfl|(simp only [Zv];done)));focus (first|exact id|exact (fun h => nomatch h)|exact (fun _ => rfl)))))
 ·rintro i ⟨hi,hall⟩
  have hw:=w64_succ (n:=i) (by omega)
  by_cases h:i < f.length
  ·have i1:((i:Int) < (f.length:Int)) = True:=eq_true (by omega)
   have i2:((0:Int) ≤ (i:Int)) = True:=eq_true (by omega)
   obtain ⟨t,ht⟩:∃ t,t = f[i]:=⟨_,rfl⟩
   have hg:(f.map eL)[i]? = some [.sl 1 (t.map eI)]:=by rw [map_get h,ht];rfl
   have hgd:f.getD i [] = t:=by rw [getD_at h,ht]
   have htl:(t.length ≤ 1048576) = True:=eq_true (Nat.le_trans (by rw [ht];exact sumLen_mem (List.getElem_mem h)) hsz)
   by_cases hc:canT t = true
   ·by_cases h0:i = 0
    ·have j1:((i:Int) > 0) = False:=eq_false (by omega)
     have hok:okT f i = true:=by unfold okT;rw [hgd,hc,h0];rfl
     repeat' (first|with_reducible (first|refine Q1 ?_|refine Q2 ?_|refine Q3 ?_|refine Q4 ?_|refine Q5 ?_|refine Q6 ?_|refine Q7 ?_|refine Q8 ?_|refine Q9 ?_|refine Qa ?_|refine Qb ?_|refine Qc ?_|refine Qd ?_|refine Qe ?_|refine Qf ?_)|((with_reducible refine Qo ?_ ?_);focus rfl)|((with_reducible first|refine QT 4 (l:=?_) ?_ ?_|refine QF 4 (l:=?_) ?_ ?_);rotate_left 1;focus (simp only [Zu,Nat.reduceSub,Nat.reduceBEq];with_reducible rfl))|((with_reducible first|refine QS (cfg_ok 35) TForS (s':=?_) ?_ ?_|refine QC (b:=?_) ?_ ?_);rotate_left 1;focus ((with_reducible refine QW ?_);simp only [Zg,seval,if_true,if_false,reduceCtorEq,Nat.reduceEqDiff,TForS,i1,i2,hg,hw,hc,j1,htl,Int.toNat_natCast,List.length_map];with_reducible rfl))|((with_reducible refine QD (cfg_ok 35) TForS mixed_ok (tr:=?_) (s':=?_) ?_ ?_ ?_);rotate_left 2;(focus ((with_reducible refine QW ?_);simp only [Zg,Zd,seval,if_true,if_false,reduceCtorEq,Nat.reduceEqDiff,TForS,i1,i2,hg,hw,hc,j1,htl,Int.toNat_natCast,List.length_map];with_reducible rfl));focus ((with_reducible refine QK ?_);simp only [Zk];kernel_rfl)))
     refine roundK.on (i + 1) ⟨⟨h,all_range_succ hall hok⟩,by omega⟩ ?_
     (repeat' (first|with_reducible refine Qn|((with_reducible refine Qr ?_ ?_);focus (first|with_reducible rfl|(simp only [Zz,Nat.reduceBEq];done)|rfl))|((with_reducible refine Qj (o':=?_) ?_ ?_ ?_);rotate_left 1;focus rfl)|((with_reducible refine Qw ?_ ?_);(focus (first|with_reducible rfl|(simp only [Zv];done)));focus (first|exact id|exact (fun h => nomatch h)|exact (fun _ => rfl)))))
    ·have j1:((i:Int) > 0) = True:=eq_true (by omega)
     have hw1:w64 ((i:Int) - 1) = ((i - 1:Nat):Int):=by rw [w64_eq (by omega)];omega
     have i3:((0:Int) ≤ ((i - 1:Nat):Int)) = True:=eq_true (by omega)
     have i4:(((i - 1:Nat):Int) < (f.length:Int)) = True:=eq_true (by omega)
     obtain ⟨s,hs⟩:∃ s,s = f[i - 1]:=⟨_,rfl⟩
     have hgs:(f.map eL)[i - 1]? = some [.sl 1 (s.map eI)]:=by rw [map_get (by omega),hs];rfl
     have hgds:f.getD (i - 1) [] = s:=by rw [getD_at (by omega),hs]
     have han:=cmpT_cmp.anti t s
     by_cases hk:cmpT t s < 0
     ·have hok:okT f i = false:=by unfold okT;rw [hgd,hgds,hc,decide_eq_false h0,decide_eq_false (by omega)];rfl
      have hB:forB f = false:=by unfold forB;rw [all_range_no h hok,Bool.and_false]
      have k1:decide (cmpT t s < 0) = true:=decide_eq_true hk
      rw [hB]
      repeat' (first|with_reducible (first|refine Q1 ?_|refine Q2 ?_|refine Q3 ?_|refine Q4 ?_|refine Q5 ?_|refine Q6 ?_|refine Q7 ?_|refine Q8 ?_|refine Q9 ?_|refine Qa ?_|refine Qb ?_|refine Qc ?_|refine Qd ?_|refine Qe ?_|refine Qf ?_)|((with_reducible refine Qo ?_ ?_);focus rfl)|((with_reducible first|refine QT 4 (l:=?_) ?_ ?_|refine QF 4 (l:=?_) ?_ ?_);rotate_left 1;focus (simp only [Zu,Nat.reduceSub,Nat.reduceBEq];with_reducible rfl))|((with_reducible first|refine QS (cfg_ok 35) TForS (s':=?_) ?_ ?_|refine QC (b:=?_) ?_ ?_);rotate_left 1;focus ((with_reducible refine QW ?_);simp only [Zg,seval,if_true,if_false,reduceCtorEq,Nat.reduceEqDiff,TForS,i1,i2,i3,i4,hg,hgs,hw,hw1,hc,j1,k1,htl,Int.toNat_natCast,List.length_map];with_reducible rfl))|((with_reducible refine QD (cfg_ok 35) TForS mixed_ok (tr:=?_) (s':=?_) ?_ ?_ ?_);rotate_left 2;(focus ((with_reducible refine QW ?_);simp only [Zg,Zd,seval,if_true,if_false,reduceCtorEq,Nat.reduceEqDiff,TForS,i1,i2,i3,i4,hg,hgs,hw,hw1,hc,j1,k1,htl,Int.toNat_natCast,List.length_map];with_reducible rfl));focus ((with_reducible refine QK ?_);simp only [Zk];kernel_rfl)))
      refine roundK.ret ?_
      repeat' (first|with_reducible (first|refine Q1 ?_|refine Q2 ?_|refine Q3 ?_|refine Q4 ?_|refine Q5 ?_|refine Q6 ?_|refine Q7 ?_|refine Q8 ?_|refine Q9 ?_|refine Qa ?_|refine Qb ?_|refine Qc ?_|refine Qd ?_|refine Qe ?_|refine Qf ?_)|((with_reducible refine Qo ?_ ?_);focus rfl)|((with_reducible first|refine QT 4 (l:=?_) ?_ ?_|refine QF 4 (l:=?_) ?_ ?_);rotate_left 1;focus (simp only [Zu,Nat.reduceSub,Nat.reduceBEq];with_reducible rfl))|((with_reducible first|refine QS (cfg_ok 35) TForS (s':=?_) ?_ ?_|refine QC (b:=?_) ?_ ?_);rotate_left 1;focus ((with_reducible refine QW ?_);simp only [Zg,seval,if_true,if_false,reduceCtorEq,Nat.reduceEqDiff,TForS];with_reducible rfl))|((with_reducible refine QD (cfg_ok 35) TForS mixed_ok (tr:=?_) (s':=?_) ?_ ?_ ?_);rotate_left 2;(focus ((with_reducible refine QW ?_);simp only [Zg,Zd,seval,if_true,if_false,reduceCtorEq,Nat.reduceEqDiff,TForS];with_reducible rfl));focus ((with_reducible refine QK ?_);simp only [Zk];kernel_rfl)))
      (refine Ends.mk (by simp) (rs:=?_) (ks:=?_) hres hrts ?_ ?_ ?_;rotate_left 2;(focus (simp only [Ze,Zg,seval,if_true,if_false,reduceCtorEq,Nat.reduceEqDiff];with_reducible rfl));(focus simp);focus (first|with_reducible rfl|(simp only [Zv];done)))
     ·have hok:okT f i = true:=by unfold okT;rw [hgd,hgds,hc,decide_eq_true (show cmpT s t ≤ 0 by omega),Bool.or_true];rfl
      have k1:decide (cmpT t s < 0) = false:=decide_eq_false hk
      repeat' (first|with_reducible (first|refine Q1 ?_|refine Q2 ?_|refine Q3 ?_|refine Q4 ?_|refine Q5 ?_|refine Q6 ?_|refine Q7 ?_|refine Q8 ?_|refine Q9 ?_|refine Qa ?_|refine Qb ?_|refine Qc ?_|refine Qd ?_|refine Qe ?_|refine Qf ?_)|((with_reducible refine Qo ?_ ?_);focus rfl)|((with_reducible first|refine QT 4 (l:=?_) ?_ ?_|refine QF 4 (l:=?_) ?_ ?_);rotate_left 1;focus (simp only [Zu,Nat.reduceSub,Nat.reduceBEq];with_reducible rfl))|((with_reducible first|refine QS (cfg_ok 35) TForS (s':=?_) ?_ ?_|refine QC (b:=?_) ?_ ?_);rotate_left 1;focus ((with_reducible refine QW ?_);simp only [Zg,seval,if_true,if_false,reduceCtorEq,Nat.reduceEqDiff,TForS,i1,i2,i3,i4,hg,hgs,hw,hw1,hc,j1,k1,htl,Int.toNat_natCast,List.length_map];with_reducible rfl))|((with_reducible refine QD (cfg_ok 35) TForS mixed_ok (tr:=?_) (s':=?_) ?_ ?_ ?_);rotate_left 2;(focus ((with_reducible refine QW ?_);simp only [Zg,Zd,seval,if_true,if_false,reduceCtorEq,Nat.reduceEqDiff,TForS,i1,i2,i3,i4,hg,hgs,hw,hw1,hc,j1,k1,htl,Int.toNat_natCast,List.length_map];with_reducible rfl));focus ((with_reducible refine QK ?_);simp only [Zk];kernel_rfl)))
      refine roundK.on (i + 1) ⟨⟨h,all_range_succ hall hok⟩,by omega⟩ ?_
      (repeat' (first|with_reducible refine Qn|((with_reducible refine Qr ?_ ?_);focus (first|with_reducible rfl|(simp only [Zz,Nat.reduceBEq];done)|rfl))|((with_reducible refine Qj (o':=?_) ?_ ?_ ?_);rotate_left 1;focus rfl)|((with_reducible refine Qw ?_ ?_);(focus (first|with_reducible rfl|(simp only [Zv];done)));focus (first|exact id|exact (fun h => nomatch h)|exact (fun _ => rfl)))))
   ·have hc:canT t = false:=by simpa using hc
    have hok:okT f i = false:=by unfold okT;rw [hgd,hc,Bool.false_and]
    have hB:forB f = false:=by unfold forB;rw [all_range_no h hok,Bool.and_false]
    rw [hB]
    repeat' (first|with_reducible (first|refine Q1 ?_|refine Q2 ?_|refine Q3 ?_|refine Q4 ?_|refine Q5 ?_|refine Q6 ?_|refine Q7 ?_|refine Q8 ?_|refine Q9 ?_|refine Qa ?_|refine Qb ?_|refine Qc ?_|refine Qd ?_|refine Qe ?_|refine Qf ?_)|((with_reducible refine Qo ?_ ?_);focus rfl)|((with_reducible first|refine QT 4 (l:=?_) ?_ ?_|refine QF 4 (l:=?_) ?_ ?_);rotate_left 1;focus (simp only [Zu,Nat.reduceSub,Nat.reduceBEq];with_reducible rfl))|((with_reducible first|refine QS (cfg_ok 35) TForS (s':=?_) ?_ ?_|refine QC (b:=?_) ?_ ?_);rotate_left 1;focus ((with_reducible refine QW ?_);simp only [Zg,seval,if_true,if_false,reduceCtorEq,Nat.reduceEqDiff,TForS,i1,i2,hg,hw,hc,htl,Int.toNat_natCast,List.length_map];with_reducible rfl))|((with_reducible refine QD (cfg_ok 35) TForS mixed_ok (tr:=?_) (s':=?_) ?_ ?_ ?_);rotate_left 2;(focus ((with_reducible refine QW ?_);simp only [Zg,Zd,seval,if_true,if_false,reduceCtorEq,Nat.reduceEqDiff,TForS,i1,i2,hg,hw,hc,htl,Int.toNat_natCast,List.length_map];with_reducible rfl));focus ((with_reducible refine QK ?_);simp only [Zk];kernel_rfl)))
    refine roundK.ret ?_
    repeat' (first|with_reducible (first|refine Q1 ?_|refine Q2 ?_|refine Q3 ?_|refine Q4 ?_|refine Q5 ?_|refine Q6 ?_|refine Q7 ?_|refine Q8 ?_|refine Q9 ?_|refine Qa ?_|refine Qb ?_|refine Qc ?_|refine Qd ?_|refine Qe ?_|refine Qf ?_)|((with_reducible refine Qo ?_ ?_);focus rfl)|((with_reducible first|refine QT 4 (l:=?_) ?_ ?_|refine QF 4 (l:=?_) ?_ ?_);rotate_left 1;focus (simp only [Zu,Nat.reduceSub,Nat.reduceBEq];with_reducible rfl))|((with_reducible first|refine QS (cfg_ok 35) TForS (s':=?_) ?_ ?_|refine QC (b:=?_) ?_ ?_);rotate_left 1;focus ((with_reducible refine QW ?_);simp only [Zg,seval,if_true,if_false,reduceCtorEq,Nat.reduceEqDiff,TForS];with_reducible rfl))|((with_reducible refine QD (cfg_ok 35) TForS mixed_ok (tr:=?_) (s':=?_) ?_ ?_ ?_);rotate_left 2;(focus ((with_reducible refine QW ?_);simp only [Zg,Zd,seval,if_true,if_false,reduceCtorEq,Nat.reduceEqDiff,TForS];with_reducible rfl));focus ((with_reducible refine QK ?_);simp only [Zk];kernel_rfl)))
    (refine Ends.mk (by simp) (rs:=?_) (ks:=?_) hres hrts ?_ ?_ ?_;rotate_left 2;(focus (simp only [Ze,Zg,seval,if_true,if_false,reduceCtorEq,Nat.reduceEqDiff];with_reducible rfl));(focus simp);focus (first|with_reducible rfl|(simp only [Zv];done)))
  ·have i1:((i:Int) < (f.length:Int)) = False:=eq_false (by omega)
   obtain rfl:i = f.length:=by omega
   repeat' (first|with_reducible (first|refine Q1 ?_|refine Q2 ?_|refine Q3 ?_|refine Q4 ?_|refine Q5 ?_|refine Q6 ?_|refine Q7 ?_|refine Q8 ?_|refine Q9 ?_|refine Qa ?_|refine Qb ?_|refine Qc ?_|refine Qd ?_|refine Qe ?_|refine Qf ?_)|((with_reducible refine Qo ?_ ?_);focus rfl)|((with_reducible first|refine QT 4 (l:=?_) ?_ ?_|refine QF 4 (l:=?_) ?_ ?_);rotate_left 1;focus (simp only [Zu,Nat.reduceSub,Nat.reduceBEq];with_reducible rfl))|((with_reducible first|refine QS (cfg_ok 35) TForS (s':=?_) ?_ ?_|refine QC (b:=?_) ?_ ?_);rotate_left 1;focus ((with_reducible refine QW ?_);simp only [Zg,seval,if_true,if_false,reduceCtorEq,Nat.reduceEqDiff,TForS,i1,List.length_map];with_reducible rfl))|((with_reducible refine QD (cfg_ok 35) TForS mixed_ok (tr:=?_) (s':=?_) ?_ ?_ ?_);rotate_left 2;(focus ((with_reducible refine QW ?_);simp only [Zg,Zd,seval,if_true,if_false,reduceCtorEq,Nat.reduceEqDiff,TForS,i1,List.length_map];with_reducible rfl));focus ((with_reducible refine QK ?_);simp only [Zk];kernel_rfl)))
   refine roundK.out () hall ?_
   (repeat' (first|with_reducible refine Qn|((with_reducible refine Qr ?_ ?_);focus (first|with_reducible rfl|(simp only [Zz,Nat.reduceBEq];done)|rfl))|((with_reducible refine Qj (o':=?_) ?_ ?_ ?_);rotate_left 1;focus rfl)|((with_reducible refine Qw ?_ ?_);(focus (first|with_reducible rfl|(simp only [Zv];done)));focus (first|exact id|exact (fun h => nomatch h)|exact (fun _ => rfl)))))
 ·rintro _ hall
  have hB:forB f = decide ((sumLen f:Int) ≤ 8):=by
   unfold forB;rw [hall,Bool.and_true]
   exact decide_eq_decide.2 (by omega)
  rw [hB]
  repeat' (first|with_reducible (first|refine Q1 ?_|refine Q2 ?_|refine Q3 ?_|refine Q4 ?_|refine Q5 ?_|refine Q6 ?_|refine Q7 ?_|refine Q8 ?_|refine Q9 ?_|refine Qa ?_|refine Qb ?_|refine Qc ?_|refine Qd ?_|refine Qe ?_|refine Qf ?_)|((with_reducible refine Qo ?_ ?_);focus rfl)|((with_reducible first|refine QT 4 (l:=?_) ?_ ?_|refine QF 4 (l:=?_) ?_ ?_);rotate_left 1;focus (simp only [Zu,Nat.reduceSub,Nat.reduceBEq];with_reducible rfl))|((with_reducible first|refine QS (cfg_ok 35) TForS (s':=?_) ?_ ?_|refine QC (b:=?_) ?_ ?_);rotate_left 1;focus ((with_reducible refine QW ?_);simp only [Zg,seval,if_true,if_false,reduceCtorEq,Nat.reduceEqDiff,TForS,hn,eL];with_reducible rfl))|((with_reducible refine QD (cfg_ok 35) TForS mixed_ok (tr:=?_) (s':=?_) ?_ ?_ ?_);rotate_left 2;(focus ((with_reducible refine QW ?_);simp only [Zg,Zd,seval,if_true,if_false,reduceCtorEq,Nat.reduceEqDiff,TForS,hn,eL];with_reducible rfl));focus ((with_reducible refine QK ?_);simp only [Zk];kernel_rfl)))
  (refine Ends.mk (by simp) (rs:=?_) (ks:=?_) hres hrts ?_ ?_ ?_;rotate_left 2;(focus (simp only [Ze,Zg,seval,if_true,if_false,reduceCtorEq,Nat.reduceEqDiff];with_reducible rfl));(focus simp);focus (first|with_reducible rfl|(simp only [Zv];done)))
end Go.Proofs.Ytedgfkpfhonlpaa
namespace Go.Proofs.Ytedgfkpfhonlpaa
open Go.RowKit
theorem for_lev8 {f:List (List Int)} (h:forB f = true):∀ b ∈ f,lev8 b = true:=fun b hb => by
 have:=(forB_spec h).2.1 b hb
 unfold canT at this
 rw [Bool.and_eq_true] at this
 exact this.1
theorem a_ForestText (f:List (List Int)) (h:forB f = true):AFn Try.prog 30 [eLL f] (· = [.val (.raw (bstr (shwD f))),.val (.int 0)]):=by
 have h8:=forB_short h
 have hs:=(forB_spec h).1
 have hi:=a_impl_IsForest f (by omega) (by omega)
 rw [h] at hi
 have ht:=a_forestText f (for_lev8 h) (by omega)
 simp only [eLL] at hi ht ⊢
 refine AFn.of_runs (cfg_ok 9) Try.func30 rfl rfl rfl (by simp only [List.length_cons,List.length_nil];decide) ?_
 have hres:Try.f30.results.toList = [.tmp 2,.tmp 3]:=rfl
 have hrts:Try.f30.resultTypes.toList = [9,2]:=rfl
 simp only [argRegs,argAV1,eL,eI,eLL,eB,Nat.zero_add,Nat.reduceAdd]
 intro M
 refine RunK.of ?_
 repeat' (first|with_reducible (first|refine Q1 ?_|refine Q2 ?_|refine Q3 ?_|refine Q4 ?_|refine Q5 ?_|refine Q6 ?_|refine Q7 ?_|refine Q8 ?_|refine Q9 ?_|refine Qa ?_|refine Qb ?_|refine Qc ?_|refine Qd ?_|refine Qe ?_|refine Qf ?_)|((with_reducible refine Qo ?_ ?_);focus rfl)|((with_reducible first|refine QT 4 (l:=?_) ?_ ?_|refine QF 4 (l:=?_) ?_ ?_);rotate_left 1;focus (simp only [Zu,Nat.reduceSub,Nat.reduceBEq];with_reducible rfl))|((with_reducible first|refine QS (cfg_ok 9) ((Tab.none.at' 15 hi).at' 66 ht) (s':=?_) ?_ ?_|refine QC (b:=?_) ?_ ?_);rotate_left 1;focus ((with_reducible refine QW ?_);simp only [Zg,seval,if_true,if_false,reduceCtorEq,Nat.reduceEqDiff];with_reducible rfl)))
 (refine Ends.mk (by simp) (rs:=?_) (ks:=?_) hres hrts ?_ ?_ ?_;rotate_left 2;(focus (simp only [Ze,Zg,seval,if_true,if_false,reduceCtorEq,Nat.reduceEqDiff];with_reducible rfl));(focus simp);focus (first|with_reducible rfl|(simp only [Zv];done)))
theorem rf_bound {s:List UInt8} {st:List (List Int) × Nat} (h:rfRun s ([],0) = some st):st.1.length ≤ s.length∧∀ t ∈ st.1,t.length ≤ s.length:=by
 have:=rfRun_I s 0 ([],0) st RfI.zero h
 obtain ⟨_,h2,_,h4⟩:=this
 rw [Nat.zero_add] at h2 h4
 exact ⟨h2,h4⟩
theorem rdG_bound (s:List UInt8):(rdG s).1.length ≤ s.length∧∀ t ∈ (rdG s).1,t.length ≤ s.length:=by
 unfold rdG
 cases h:rfRun s ([],0) with
 | none => exact ⟨Nat.zero_le _,fun t ht => by cases ht⟩
 | some st => exact rf_bound h
theorem rdF_bound (s:List UInt8):(rdF s).1.length ≤ s.length∧∀ t ∈ (rdF s).1,t.length ≤ s.length:=by
 unfold rdF
 split
 ·exact ⟨Nat.zero_le _,fun t ht => by cases ht⟩
 ·exact rdG_bound s
theorem sum_bound {f:List (List Int)} {n:Nat} (h1:f.length ≤ n) (h2:∀ t ∈ f,t.length ≤ n):sumLen f ≤ n * n:=by
 have key:∀ (f:List (List Int)),(∀ t ∈ f,t.length ≤ n)→sumLen f ≤ n * f.length:=by
  intro f
  induction f with
  | nil => intro _;simp [sumLen]
  | cons b f ih =>
   intro h
   have k1:=h b (by simp)
   have k2:=ih (fun x hx => h x (by simp [hx]))
   simp only [sumLen,List.map_cons,List.sum_cons,List.length_cons] at k2 ⊢
   rw [Nat.mul_succ];omega
 exact Nat.le_trans (key f h2) (Nat.mul_le_mul_left _ h1)
def prsR (s:List UInt8) (r:List (List Int) × Bool):List (List Int) × Int :=
 if s = [45] then ([],0) else if r.2 = true∧r.1 ≠ []∧forB r.1 = true then (r.1,0) else ([],6)
theorem a_l03Read (s:List UInt8) (h:s.length ≤ 1000000):AFn Try.prog 70 [[.raw (bstr s)]] (· = [.own 1 ((rdG s).1.map eL) true,.val (.bool (rdG s).2)]) :=
 AFn.of_ob (encS encI) (enters_of Try.func70 rfl rfl) (fun w A vs h' => by
  obtain ⟨v1,_,e1,h1,e2⟩:=h'
  have e2:_ = []:=e2
  subst e2;subst e1
  obtain ⟨rfl,_⟩:=rdV_raw.1 h1
  exact c_l03Read s w h)
set_option maxHeartbeats 8000000 in
theorem a_impl_ParseForest (s:List UInt8) (hs:s.length ≤ 1000):AFn Try.prog 31 [[.raw (bstr s)]] (· = [.own 1 ((prsR s (rdF s)).1.map eL) true,.val (.int (prsR s (rdF s)).2)]):=by
 have hrf:=a_readForest s (by omega)
 obtain ⟨k1,k2⟩:=rdF_bound s
 have k3:=sum_bound k1 k2
 have k4:s.length * s.length ≤ 1000 * 1000:=Nat.mul_le_mul hs hs
 have hi:=a_impl_IsForest (rdF s).1 (by omega) (by omega)
 unfold prsR
 obtain ⟨⟨L,ok⟩,hL⟩:∃ p,p = rdF s:=⟨_,rfl⟩
 rw [← hL] at hrf hi k1 ⊢
 simp only at hrf hi k1 ⊢
 have hlm:(L.map eL).length = L.length:=List.length_map _
 simp only [eLL] at hi
 refine AFn.of_runs (cfg_ok 27) Try.func31 rfl rfl rfl (by simp only [List.length_cons,List.length_nil];decide) ?_
 have hres:Try.f31.results.toList = [.tmp 2,.tmp 3]:=rfl
 have hrts:Try.f31.resultTypes.toList = [33,2]:=rfl
 simp only [argRegs,argAV1,eL,eI,eLL,eB,Nat.zero_add,Nat.reduceAdd]
 intro M
 refine RunK.of ?_
 ((repeat' (first|with_reducible (first|refine Q1 ?_|refine Q2 ?_|refine Q3 ?_|refine Q4 ?_|refine Q5 ?_|refine Q6 ?_|refine Q7 ?_|refine Q8 ?_|refine Q9 ?_|refine Qa ?_|refine Qb ?_|refine Qc ?_|refine Qd ?_|refine Qe ?_|refine Qf ?_)|((with_reducible refine Qo ?_ ?_);focus rfl)|((with_reducible first|refine QT 6 (l:=?_) ?_ ?_|refine QF 6 (l:=?_) ?_ ?_);rotate_left 1;focus (simp only [Zu,Nat.reduceSub,Nat.reduceBEq];with_reducible rfl))|((with_reducible refine QC (b:=?_) ?_ ?_);rotate_left 1;focus ((with_reducible refine QW ?_);simp only [Zg,seval,if_true,if_false,reduceCtorEq,Nat.reduceEqDiff];with_reducible rfl))));((with_reducible refine QS (cfg_ok 27) Tab.none (s':=?_) ?_ ?_);rotate_left 1;focus ((with_reducible refine QW ?_);simp only [Zg,seval,if_true,if_false,reduceCtorEq,Nat.reduceEqDiff];with_reducible rfl));(repeat' (first|with_reducible (first|refine Q1 ?_|refine Q2 ?_|refine Q3 ?_|refine Q4 ?_|refine Q5 ?_|refine Q6 ?_|refine Q7 ?_|refine Q8 ?_|refine Q9 ?_|refine Qa ?_|refine Qb ?_|refine Qc ?_|refine Qd ?_|refine Qe ?_|refine Qf ?_)|((with_reducible refine Qo ?_ ?_);focus rfl)|((with_reducible first|refine QT 6 (l:=?_) ?_ ?_|refine QF 6 (l:=?_) ?_ ?_);rotate_left 1;focus (simp only [Zu,Nat.reduceSub,Nat.reduceBEq];with_reducible rfl))|((with_reducible refine QC (b:=?_) ?_ ?_);rotate_left 1;focus ((with_reducible refine QW ?_);simp only [Zg,seval,if_true,if_false,reduceCtorEq,Nat.reduceEqDiff];with_reducible rfl)))))
 ((repeat' (first|with_reducible (first|refine Q1 ?_|refine Q2 ?_|refine Q3 ?_|refine Q4 ?_|refine Q5 ?_|refine Q6 ?_|refine Q7 ?_|refine Q8 ?_|refine Q9 ?_|refine Qa ?_|refine Qb ?_|refine Qc ?_|refine Qd ?_|refine Qe ?_|refine Qf ?_)|((with_reducible refine Qo ?_ ?_);focus rfl)|((with_reducible first|refine QT 6 (l:=?_) ?_ ?_|refine QF 6 (l:=?_) ?_ ?_);rotate_left 1;focus (simp only [Zu,Nat.reduceSub,Nat.reduceBEq];with_reducible rfl))|((with_reducible refine QC (b:=?_) ?_ ?_);rotate_left 1;focus ((with_reducible refine QW ?_);simp only [Zg,seval,if_true,if_false,reduceCtorEq,Nat.reduceEqDiff];with_reducible rfl))));(with_reducible refine RunK.regCut (cfg_ok 27) Tab.none 1 (s1:=?_) ?_ ?_);rotate_left 1;(focus ((with_reducible refine QW ?_);simp only [Zg,seval,if_true,if_false,reduceCtorEq,Nat.reduceEqDiff];with_reducible rfl));simp only [List.toList_toArray,List.drop_succ_cons,List.drop_zero])
 refine ROps.bEq (d:=7) (p:=s) (q:=[45]) rfl (by rfl) rfl (by decide) rfl rfl ?_
 (refine ROps.opsT (cfg_ok 27) (T:=Tab.none) (s':=?_) ?_ ?_;rotate_left 1;focus (simp only [Zg,seval,if_true,if_false,reduceCtorEq,Nat.reduceEqDiff];with_reducible rfl))
 by_cases h45:s = [45]
 ·rw [if_pos h45,show (s == [45]) = true by simpa using h45]
  repeat' (first|with_reducible (first|refine Q1 ?_|refine Q2 ?_|refine Q3 ?_|refine Q4 ?_|refine Q5 ?_|refine Q6 ?_|refine Q7 ?_|refine Q8 ?_|refine Q9 ?_|refine Qa ?_|refine Qb ?_|refine Qc ?_|refine Qd ?_|refine Qe ?_|refine Qf ?_)|((with_reducible refine Qo ?_ ?_);focus rfl)|((with_reducible first|refine QT 6 (l:=?_) ?_ ?_|refine QF 6 (l:=?_) ?_ ?_);rotate_left 1;focus (simp only [Zu,Nat.reduceSub,Nat.reduceBEq];with_reducible rfl))|((with_reducible first|refine QS (cfg_ok 27) Tab.none (s':=?_) ?_ ?_|refine QC (b:=?_) ?_ ?_);rotate_left 1;focus ((with_reducible refine QW ?_);simp only [Zg,seval,if_true,if_false,reduceCtorEq,Nat.reduceEqDiff];with_reducible rfl)))
  (refine Ends.mk (by simp) (rs:=?_) (ks:=?_) hres hrts ?_ ?_ ?_;rotate_left 2;(focus (simp only [Ze,Zg,seval,if_true,if_false,reduceCtorEq,Nat.reduceEqDiff];with_reducible rfl));(focus simp);focus (first|with_reducible rfl|(simp only [Zv];done)))
 rw [if_neg h45,show (s == [45]) = false by simpa using h45]
 cases ok with
 | false =>
  rw [if_neg (fun h => absurd h.1 (by decide))]
  repeat' (first|with_reducible (first|refine Q1 ?_|refine Q2 ?_|refine Q3 ?_|refine Q4 ?_|refine Q5 ?_|refine Q6 ?_|refine Q7 ?_|refine Q8 ?_|refine Q9 ?_|refine Qa ?_|refine Qb ?_|refine Qc ?_|refine Qd ?_|refine Qe ?_|refine Qf ?_)|((with_reducible refine Qo ?_ ?_);focus rfl)|((with_reducible first|refine QT 6 (l:=?_) ?_ ?_|refine QF 6 (l:=?_) ?_ ?_);rotate_left 1;focus (simp only [Zu,Nat.reduceSub,Nat.reduceBEq];with_reducible rfl))|((with_reducible first|refine QS (cfg_ok 27) (Tab.none.at' 56 hrf) (s':=?_) ?_ ?_|refine QC (b:=?_) ?_ ?_);rotate_left 1;focus ((with_reducible refine QW ?_);simp only [Zg,seval,if_true,if_false,reduceCtorEq,Nat.reduceEqDiff];with_reducible rfl)))
  (refine Ends.mk (by simp) (rs:=?_) (ks:=?_) hres hrts ?_ ?_ ?_;rotate_left 2;(focus (simp only [Ze,Zg,seval,if_true,if_false,reduceCtorEq,Nat.reduceEqDiff];with_reducible rfl));(focus simp);focus (first|with_reducible rfl|(simp only [Zv];done)))
 | true =>
  by_cases hn:L = []
  ·rw [if_neg (fun h => h.2.1 hn)]
   have b0:((L.length:Int) == 0) = true:=by rw [hn];rfl
   repeat' (first|with_reducible (first|refine Q1 ?_|refine Q2 ?_|refine Q3 ?_|refine Q4 ?_|refine Q5 ?_|refine Q6 ?_|refine Q7 ?_|refine Q8 ?_|refine Q9 ?_|refine Qa ?_|refine Qb ?_|refine Qc ?_|refine Qd ?_|refine Qe ?_|refine Qf ?_)|((with_reducible refine Qo ?_ ?_);focus rfl)|((with_reducible first|refine QT 6 (l:=?_) ?_ ?_|refine QF 6 (l:=?_) ?_ ?_);rotate_left 1;focus (simp only [Zu,Nat.reduceSub,Nat.reduceBEq];with_reducible rfl))|((with_reducible first|refine QS (cfg_ok 27) (Tab.none.at' 56 hrf) (s':=?_) ?_ ?_|refine QC (b:=?_) ?_ ?_);rotate_left 1;focus ((with_reducible refine QW ?_);simp only [Zg,seval,if_true,if_false,reduceCtorEq,Nat.reduceEqDiff,b0,hlm];with_reducible rfl)))
   (refine Ends.mk (by simp) (rs:=?_) (ks:=?_) hres hrts ?_ ?_ ?_;rotate_left 2;(focus (simp only [Ze,Zg,seval,if_true,if_false,reduceCtorEq,Nat.reduceEqDiff];with_reducible rfl));(focus simp);focus (first|with_reducible rfl|(simp only [Zv];done)))
  have hlp:0 < L.length:=List.length_pos_iff.2 hn
  have b0:((L.length:Int) == 0) = false:=beq_eq_false_iff_ne.2 (by omega)
  by_cases hb:forB L = true
  ·rw [hb] at hi
   rw [if_pos ⟨rfl,hn,hb⟩]
   repeat' (first|with_reducible (first|refine Q1 ?_|refine Q2 ?_|refine Q3 ?_|refine Q4 ?_|refine Q5 ?_|refine Q6 ?_|refine Q7 ?_|refine Q8 ?_|refine Q9 ?_|refine Qa ?_|refine Qb ?_|refine Qc ?_|refine Qd ?_|refine Qe ?_|refine Qf ?_)|((with_reducible refine Qo ?_ ?_);focus rfl)|((with_reducible first|refine QT 6 (l:=?_) ?_ ?_|refine QF 6 (l:=?_) ?_ ?_);rotate_left 1;focus (simp only [Zu,Nat.reduceSub,Nat.reduceBEq];with_reducible rfl))|((with_reducible first|refine QS (cfg_ok 27) ((Tab.none.at' 56 hrf).at' 15 hi) (s':=?_) ?_ ?_|refine QC (b:=?_) ?_ ?_);rotate_left 1;focus ((with_reducible refine QW ?_);simp only [Zg,seval,if_true,if_false,reduceCtorEq,Nat.reduceEqDiff,b0,hlm];with_reducible rfl)))
   (refine Ends.mk (by simp) (rs:=?_) (ks:=?_) hres hrts ?_ ?_ ?_;rotate_left 2;(focus (simp only [Ze,Zg,seval,if_true,if_false,reduceCtorEq,Nat.reduceEqDiff];with_reducible rfl));(focus simp);focus (first|with_reducible rfl|(simp only [Zv];done)))
  ·rw [show forB L = false by simpa using hb] at hi
   rw [if_neg (fun h => hb h.2.2)]
   repeat' (first|with_reducible (first|refine Q1 ?_|refine Q2 ?_|refine Q3 ?_|refine Q4 ?_|refine Q5 ?_|refine Q6 ?_|refine Q7 ?_|refine Q8 ?_|refine Q9 ?_|refine Qa ?_|refine Qb ?_|refine Qc ?_|refine Qd ?_|refine Qe ?_|refine Qf ?_)|((with_reducible refine Qo ?_ ?_);focus rfl)|((with_reducible first|refine QT 6 (l:=?_) ?_ ?_|refine QF 6 (l:=?_) ?_ ?_);rotate_left 1;focus (simp only [Zu,Nat.reduceSub,Nat.reduceBEq];with_reducible rfl))|((with_reducible first|refine QS (cfg_ok 27) ((Tab.none.at' 56 hrf).at' 15 hi) (s':=?_) ?_ ?_|refine QC (b:=?_) ?_ ?_);rotate_left 1;focus ((with_reducible refine QW ?_);simp only [Zg,seval,if_true,if_false,reduceCtorEq,Nat.reduceEqDiff,b0,hlm];with_reducible rfl)))
   (refine Ends.mk (by simp) (rs:=?_) (ks:=?_) hres hrts ?_ ?_ ?_;rotate_left 2;(focus (simp only [Ze,Zg,seval,if_true,if_false,reduceCtorEq,Nat.reduceEqDiff];with_reducible rfl));(focus simp);focus (first|with_reducible rfl|(simp only [Zv];done)))
set_option maxHeartbeats 8000000 in
theorem a_spec_ParseForest (s:List UInt8) (hs:s.length ≤ 1000):AFn Try.prog 35 [[.raw (bstr s)]] (· = [.own 1 ((prsR s (rdG s)).1.map eL) true,.val (.int (prsR s (rdG s)).2)]):=by
 have hrf:=a_l03Read s (by omega)
 obtain ⟨k1,k2⟩:=rdG_bound s
 have k3:=sum_bound k1 k2
 have k4:s.length * s.length ≤ 1000 * 1000:=Nat.mul_le_mul hs hs
 have hi:=a_l03Forest (rdG s).1 (by omega) (by omega)
 unfold prsR
 obtain ⟨⟨L,ok⟩,hL⟩:∃ p,p = rdG s:=⟨_,rfl⟩
 rw [← hL] at hrf hi k1 ⊢
 simp only at hrf hi k1 ⊢
 have hlm:(L.map eL).length = L.length:=List.length_map _
 simp only [eLL] at hi
 refine AFn.of_runs (cfg_ok 26) Try.func35 rfl rfl rfl (by simp only [List.length_cons,List.length_nil];decide) ?_
 have hres:Try.f35.results.toList = [.tmp 2,.tmp 3]:=rfl
 have hrts:Try.f35.resultTypes.toList = [33,2]:=rfl
 simp only [argRegs,argAV1,eL,eI,eLL,eB,Nat.zero_add,Nat.reduceAdd]
 intro M
 refine RunK.of ?_
 ((repeat' (first|with_reducible (first|refine Q1 ?_|refine Q2 ?_|refine Q3 ?_|refine Q4 ?_|refine Q5 ?_|refine Q6 ?_|refine Q7 ?_|refine Q8 ?_|refine Q9 ?_|refine Qa ?_|refine Qb ?_|refine Qc ?_|refine Qd ?_|refine Qe ?_|refine Qf ?_)|((with_reducible refine Qo ?_ ?_);focus rfl)|((with_reducible first|refine QT 6 (l:=?_) ?_ ?_|refine QF 6 (l:=?_) ?_ ?_);rotate_left 1;focus (simp only [Zu,Nat.reduceSub,Nat.reduceBEq];with_reducible rfl))|((with_reducible refine QC (b:=?_) ?_ ?_);rotate_left 1;focus ((with_reducible refine QW ?_);simp only [Zg,seval,if_true,if_false,reduceCtorEq,Nat.reduceEqDiff];with_reducible rfl))));((with_reducible refine QS (cfg_ok 26) Tab.none (s':=?_) ?_ ?_);rotate_left 1;focus ((with_reducible refine QW ?_);simp only [Zg,seval,if_true,if_false,reduceCtorEq,Nat.reduceEqDiff];with_reducible rfl));(repeat' (first|with_reducible (first|refine Q1 ?_|refine Q2 ?_|refine Q3 ?_|refine Q4 ?_|refine Q5 ?_|refine Q6 ?_|refine Q7 ?_|refine Q8 ?_|refine Q9 ?_|refine Qa ?_|refine Qb ?_|refine Qc ?_|refine Qd ?_|refine Qe ?_|refine Qf ?_)|((with_reducible refine Qo ?_ ?_);focus rfl)|((with_reducible first|refine QT 6 (l:=?_) ?_ ?_|refine QF 6 (l:=?_) ?_ ?_);rotate_left 1;focus (simp only [Zu,Nat.reduceSub,Nat.reduceBEq];with_reducible rfl))|((with_reducible refine QC (b:=?_) ?_ ?_);rotate_left 1;focus ((with_reducible refine QW ?_);simp only [Zg,seval,if_true,if_false,reduceCtorEq,Nat.reduceEqDiff];with_reducible rfl)))))
 ((repeat' (first|with_reducible (first|refine Q1 ?_|refine Q2 ?_|refine Q3 ?_|refine Q4 ?_|refine Q5 ?_|refine Q6 ?_|refine Q7 ?_|refine Q8 ?_|refine Q9 ?_|refine Qa ?_|refine Qb ?_|refine Qc ?_|refine Qd ?_|refine Qe ?_|refine Qf ?_)|((with_reducible refine Qo ?_ ?_);focus rfl)|((with_reducible first|refine QT 6 (l:=?_) ?_ ?_|refine QF 6 (l:=?_) ?_ ?_);rotate_left 1;focus (simp only [Zu,Nat.reduceSub,Nat.reduceBEq];with_reducible rfl))|((with_reducible refine QC (b:=?_) ?_ ?_);rotate_left 1;focus ((with_reducible refine QW ?_);simp only [Zg,seval,if_true,if_false,reduceCtorEq,Nat.reduceEqDiff];with_reducible rfl))));((with_reducible refine QS (cfg_ok 26) (Tab.none.at' 70 hrf) (s':=?_) ?_ ?_);rotate_left 1;focus ((with_reducible refine QW ?_);simp only [Zg,seval,if_true,if_false,reduceCtorEq,Nat.reduceEqDiff];with_reducible rfl));(repeat' (first|with_reducible (first|refine Q1 ?_|refine Q2 ?_|refine Q3 ?_|refine Q4 ?_|refine Q5 ?_|refine Q6 ?_|refine Q7 ?_|refine Q8 ?_|refine Q9 ?_|refine Qa ?_|refine Qb ?_|refine Qc ?_|refine Qd ?_|refine Qe ?_|refine Qf ?_)|((with_reducible refine Qo ?_ ?_);focus rfl)|((with_reducible first|refine QT 6 (l:=?_) ?_ ?_|refine QF 6 (l:=?_) ?_ ?_);rotate_left 1;focus (simp only [Zu,Nat.reduceSub,Nat.reduceBEq];with_reducible rfl))|((with_reducible refine QC (b:=?_) ?_ ?_);rotate_left 1;focus ((with_reducible refine QW ?_);simp only [Zg,seval,if_true,if_false,reduceCtorEq,Nat.reduceEqDiff];with_reducible rfl)))))
 ((repeat' (first|with_reducible (first|refine Q1 ?_|refine Q2 ?_|refine Q3 ?_|refine Q4 ?_|refine Q5 ?_|refine Q6 ?_|refine Q7 ?_|refine Q8 ?_|refine Q9 ?_|refine Qa ?_|refine Qb ?_|refine Qc ?_|refine Qd ?_|refine Qe ?_|refine Qf ?_)|((with_reducible refine Qo ?_ ?_);focus rfl)|((with_reducible first|refine QT 6 (l:=?_) ?_ ?_|refine QF 6 (l:=?_) ?_ ?_);rotate_left 1;focus (simp only [Zu,Nat.reduceSub,Nat.reduceBEq];with_reducible rfl))|((with_reducible refine QC (b:=?_) ?_ ?_);rotate_left 1;focus ((with_reducible refine QW ?_);simp only [Zg,seval,if_true,if_false,reduceCtorEq,Nat.reduceEqDiff];with_reducible rfl))));(with_reducible refine RunK.regCut (cfg_ok 26) Tab.none 1 (s1:=?_) ?_ ?_);rotate_left 1;(focus ((with_reducible refine QW ?_);simp only [Zg,seval,if_true,if_false,reduceCtorEq,Nat.reduceEqDiff];with_reducible rfl));simp only [List.toList_toArray,List.drop_succ_cons,List.drop_zero])
 refine ROps.bEq (d:=12) (p:=s) (q:=[45]) rfl (by rfl) rfl (by decide) rfl rfl ?_
 (refine ROps.opsT (cfg_ok 26) (T:=Tab.none) (s':=?_) ?_ ?_;rotate_left 1;focus (simp only [Zg,seval,if_true,if_false,reduceCtorEq,Nat.reduceEqDiff];with_reducible rfl))
 by_cases h45:s = [45]
 ·rw [if_pos h45,show (s == [45]) = true by simpa using h45]
  repeat' (first|with_reducible (first|refine Q1 ?_|refine Q2 ?_|refine Q3 ?_|refine Q4 ?_|refine Q5 ?_|refine Q6 ?_|refine Q7 ?_|refine Q8 ?_|refine Q9 ?_|refine Qa ?_|refine Qb ?_|refine Qc ?_|refine Qd ?_|refine Qe ?_|refine Qf ?_)|((with_reducible refine Qo ?_ ?_);focus rfl)|((with_reducible first|refine QT 6 (l:=?_) ?_ ?_|refine QF 6 (l:=?_) ?_ ?_);rotate_left 1;focus (simp only [Zu,Nat.reduceSub,Nat.reduceBEq];with_reducible rfl))|((with_reducible first|refine QS (cfg_ok 26) Tab.none (s':=?_) ?_ ?_|refine QC (b:=?_) ?_ ?_);rotate_left 1;focus ((with_reducible refine QW ?_);simp only [Zg,seval,if_true,if_false,reduceCtorEq,Nat.reduceEqDiff];with_reducible rfl)))
  (refine Ends.mk (by simp) (rs:=?_) (ks:=?_) hres hrts ?_ ?_ ?_;rotate_left 2;(focus (simp only [Ze,Zg,seval,if_true,if_false,reduceCtorEq,Nat.reduceEqDiff];with_reducible rfl));(focus simp);focus (first|with_reducible rfl|(simp only [Zv];done)))
 rw [if_neg h45,show (s == [45]) = false by simpa using h45]
 cases ok with
 | false =>
  rw [if_neg (fun h => absurd h.1 (by decide))]
  repeat' (first|with_reducible (first|refine Q1 ?_|refine Q2 ?_|refine Q3 ?_|refine Q4 ?_|refine Q5 ?_|refine Q6 ?_|refine Q7 ?_|refine Q8 ?_|refine Q9 ?_|refine Qa ?_|refine Qb ?_|refine Qc ?_|refine Qd ?_|refine Qe ?_|refine Qf ?_)|((with_reducible refine Qo ?_ ?_);focus rfl)|((with_reducible first|refine QT 6 (l:=?_) ?_ ?_|refine QF 6 (l:=?_) ?_ ?_);rotate_left 1;focus (simp only [Zu,Nat.reduceSub,Nat.reduceBEq];with_reducible rfl))|((with_reducible first|refine QS (cfg_ok 26) Tab.none (s':=?_) ?_ ?_|refine QC (b:=?_) ?_ ?_);rotate_left 1;focus ((with_reducible refine QW ?_);simp only [Zg,seval,if_true,if_false,reduceCtorEq,Nat.reduceEqDiff];with_reducible rfl)))
  (refine Ends.mk (by simp) (rs:=?_) (ks:=?_) hres hrts ?_ ?_ ?_;rotate_left 2;(focus (simp only [Ze,Zg,seval,if_true,if_false,reduceCtorEq,Nat.reduceEqDiff];with_reducible rfl));(focus simp);focus (first|with_reducible rfl|(simp only [Zv];done)))
 | true =>
  by_cases hn:L = []
  ·rw [if_neg (fun h => h.2.1 hn)]
   have b0:((L.length:Int) == 0) = true:=by rw [hn];rfl
   repeat' (first|with_reducible (first|refine Q1 ?_|refine Q2 ?_|refine Q3 ?_|refine Q4 ?_|refine Q5 ?_|refine Q6 ?_|refine Q7 ?_|refine Q8 ?_|refine Q9 ?_|refine Qa ?_|refine Qb ?_|refine Qc ?_|refine Qd ?_|refine Qe ?_|refine Qf ?_)|((with_reducible refine Qo ?_ ?_);focus rfl)|((with_reducible first|refine QT 6 (l:=?_) ?_ ?_|refine QF 6 (l:=?_) ?_ ?_);rotate_left 1;focus (simp only [Zu,Nat.reduceSub,Nat.reduceBEq];with_reducible rfl))|((with_reducible first|refine QS (cfg_ok 26) Tab.none (s':=?_) ?_ ?_|refine QC (b:=?_) ?_ ?_);rotate_left 1;focus ((with_reducible refine QW ?_);simp only [Zg,seval,if_true,if_false,reduceCtorEq,Nat.reduceEqDiff,b0,hlm];with_reducible rfl)))
   (refine Ends.mk (by simp) (rs:=?_) (ks:=?_) hres hrts ?_ ?_ ?_;rotate_left 2;(focus (simp only [Ze,Zg,seval,if_true,if_false,reduceCtorEq,Nat.reduceEqDiff];with_reducible rfl));(focus simp);focus (first|with_reducible rfl|(simp only [Zv];done)))
  have hlp:0 < L.length:=List.length_pos_iff.2 hn
  have b0:((L.length:Int) == 0) = false:=beq_eq_false_iff_ne.2 (by omega)
  by_cases hb:forB L = true
  ·rw [hb] at hi
   rw [if_pos ⟨rfl,hn,hb⟩]
   repeat' (first|with_reducible (first|refine Q1 ?_|refine Q2 ?_|refine Q3 ?_|refine Q4 ?_|refine Q5 ?_|refine Q6 ?_|refine Q7 ?_|refine Q8 ?_|refine Q9 ?_|refine Qa ?_|refine Qb ?_|refine Qc ?_|refine Qd ?_|refine Qe ?_|refine Qf ?_)|((with_reducible refine Qo ?_ ?_);focus rfl)|((with_reducible first|refine QT 6 (l:=?_) ?_ ?_|refine QF 6 (l:=?_) ?_ ?_);rotate_left 1;focus (simp only [Zu,Nat.reduceSub,Nat.reduceBEq];with_reducible rfl))|((with_reducible first|refine QS (cfg_ok 26) (Tab.none.at' 63 hi) (s':=?_) ?_ ?_|refine QC (b:=?_) ?_ ?_);rotate_left 1;focus ((with_reducible refine QW ?_);simp only [Zg,seval,if_true,if_false,reduceCtorEq,Nat.reduceEqDiff,b0,hlm];with_reducible rfl)))
   (refine Ends.mk (by simp) (rs:=?_) (ks:=?_) hres hrts ?_ ?_ ?_;rotate_left 2;(focus (simp only [Ze,Zg,seval,if_true,if_false,reduceCtorEq,Nat.reduceEqDiff];with_reducible rfl));(focus simp);focus (first|with_reducible rfl|(simp only [Zv];done)))
  ·rw [show forB L = false by simpa using hb] at hi
   rw [if_neg (fun h => hb h.2.2)]
   repeat' (first|with_reducible (first|refine Q1 ?_|refine Q2 ?_|refine Q3 ?_|refine Q4 ?_|refine Q5 ?_|refine Q6 ?_|refine Q7 ?_|refine Q8 ?_|refine Q9 ?_|refine Qa ?_|refine Qb ?_|refine Qc ?_|refine Qd ?_|refine Qe ?_|refine Qf ?_)|((with_reducible refine Qo ?_ ?_);focus rfl)|((with_reducible first|refine QT 6 (l:=?_) ?_ ?_|refine QF 6 (l:=?_) ?_ ?_);rotate_left 1;focus (simp only [Zu,Nat.reduceSub,Nat.reduceBEq];with_reducible rfl))|((with_reducible first|refine QS (cfg_ok 26) (Tab.none.at' 63 hi) (s':=?_) ?_ ?_|refine QC (b:=?_) ?_ ?_);rotate_left 1;focus ((with_reducible refine QW ?_);simp only [Zg,seval,if_true,if_false,reduceCtorEq,Nat.reduceEqDiff,b0,hlm];with_reducible rfl)))
   (refine Ends.mk (by simp) (rs:=?_) (ks:=?_) hres hrts ?_ ?_ ?_;rotate_left 2;(focus (simp only [Ze,Zg,seval,if_true,if_false,reduceCtorEq,Nat.reduceEqDiff];with_reducible rfl));(focus simp);focus (first|with_reducible rfl|(simp only [Zv];done)))
set_option maxHeartbeats 8000000 in
theorem a_l03Text:∀ (n:Nat),n ≤ 8→∀ t:List Int,LevP t→t.length ≤ n→AFn Try.prog 89 [eL t] (· = [.val (.raw (bstr (txtF n t)))])
 | 0,_,t,h,hn => by have:=h.pos;omega
 | n + 1,hn8,t,h,hn => by
  have hpa:=AFn.valT (a_l03Parts2 t h (by omega))
  have hlev:=brs_lev h
  have hfew:=brs_few h
  have htl:=txtTo_len h hn
  rw [← txtTo_all]
  have hih:∀ k (hk:k < (brs t).length),AFn Try.prog 89 [eL (brs t)[k]] (· = [.val (.raw (bstr (txtF n (brs t)[k])))]):=fun k hk => a_l03Text n (by omega) _ (hlev _ (List.getElem_mem hk)) (by have:=brs_short h _ (List.getElem_mem hk);omega)
  have hlm:((brs t).map eL).length = (brs t).length:=List.length_map _
  simp only [eL] at hpa hih ⊢
  refine AFn.of_runs (cfg_ok 23) Try.func89 rfl rfl rfl (by simp only [List.length_cons,List.length_nil];decide) ?_
  have hres:Try.f89.results.toList = [.tmp 2]:=rfl
  have hrts:Try.f89.resultTypes.toList = [9]:=rfl
  simp only [argRegs,argAV1,eL,eI,eLL,eB,Nat.zero_add,Nat.reduceAdd]
  intro M
  refine RunK.of ?_
  repeat' (first|with_reducible (first|refine Q1 ?_|refine Q2 ?_|refine Q3 ?_|refine Q4 ?_|refine Q5 ?_|refine Q6 ?_|refine Q7 ?_|refine Q8 ?_|refine Q9 ?_|refine Qa ?_|refine Qb ?_|refine Qc ?_|refine Qd ?_|refine Qe ?_|refine Qf ?_)|((with_reducible refine Qo ?_ ?_);focus rfl)|((with_reducible first|refine QT 6 (l:=?_) ?_ ?_|refine QF 6 (l:=?_) ?_ ?_);rotate_left 1;focus (simp only [Zu,Nat.reduceSub,Nat.reduceBEq];with_reducible rfl))|((with_reducible first|refine QS (cfg_ok 23) (Tab.none.at' 40 hpa) (s':=?_) ?_ ?_|refine QC (b:=?_) ?_ ?_);rotate_left 1;focus ((with_reducible refine QW ?_);simp only [Zg,seval,if_true,if_false,reduceCtorEq,Nat.reduceEqDiff];with_reducible rfl)))
  refine RunK.loop (β:=Nat) (γ:=Unit) (fun k => ⟨[(3,.c (.val (.raw (bstr (txtTo n t k))))),(4,.c (.val (.sl 1 ((brs t).map eL)))),(5,.c (.val (.int k)))],[]⟩) (fun k => k ≤ (brs t).length) (fun k => (brs t).length - k)
   (fun _ => ⟨[(3,.c (.val (.raw (bstr (txtTo n t (brs t).length)))))],[]⟩) (fun _ => True) 0 (Nat.zero_le _) ?_ ?_ ?_
  ·(repeat' (first|with_reducible refine Qn|((with_reducible refine Qr ?_ ?_);focus (first|with_reducible rfl|(simp only [Zz,Nat.reduceBEq,show bstr (txtTo n t 0) = Value.string ⟨#[91]⟩ from rfl,Int.natCast_zero];done)|rfl))|((with_reducible refine Qj (o':=?_) ?_ ?_ ?_);rotate_left 1;focus rfl)|((with_reducible refine Qw ?_ ?_);(focus (first|with_reducible rfl|(simp only [Zv,show bstr (txtTo n t 0) = Value.string ⟨#[91]⟩ from rfl,Int.natCast_zero];done)));focus (first|exact id|exact (fun h => nomatch h)|exact (fun _ => rfl)))))
  ·intro k hk
   have hk:k ≤ (brs t).length:=hk
   have hw:=w64_succ (n:=k) (by omega)
   by_cases hkb:k < (brs t).length
   ·have i1:((k:Int) < ((brs t).length:Int)) = True:=eq_true (by omega)
    have i2:((0:Int) ≤ (k:Int)) = True:=eq_true (by omega)
    have hg:((brs t).map eL)[k]? = some [.sl 1 ((brs t)[k].map eI)]:=by rw [map_get hkb];rfl
    have hc:=hih k hkb
    have htk:=txtTo_succ n t k hkb
    have hb1:=htl (k + 1)
    rw [htk,List.length_append] at hb1
    obtain ⟨X,hX⟩:∃ X,X = txtTo n t k:=⟨_,rfl⟩
    obtain ⟨y,hy⟩:∃ y,y = txtF n (brs t)[k]:=⟨_,rfl⟩
    rw [← hX,← hy] at htk hb1
    rw [← hy] at hc
    rw [← hX]
    obtain ⟨b,hb⟩:∃ b,b = (brs t)[k]:=⟨_,rfl⟩
    rw [← hb] at hg hc
    repeat' (first|with_reducible (first|refine Q1 ?_|refine Q2 ?_|refine Q3 ?_|refine Q4 ?_|refine Q5 ?_|refine Q6 ?_|refine Q7 ?_|refine Q8 ?_|refine Q9 ?_|refine Qa ?_|refine Qb ?_|refine Qc ?_|refine Qd ?_|refine Qe ?_|refine Qf ?_)|((with_reducible refine Qo ?_ ?_);focus rfl)|((with_reducible first|refine QT 6 (l:=?_) ?_ ?_|refine QF 6 (l:=?_) ?_ ?_);rotate_left 1;focus (simp only [Zu,Nat.reduceSub,Nat.reduceBEq];with_reducible rfl))|((with_reducible first|refine QS (cfg_ok 23) Tab.none (s':=?_) ?_ ?_|refine QC (b:=?_) ?_ ?_);rotate_left 1;focus ((with_reducible refine QW ?_);simp only [Zg,seval,if_true,if_false,reduceCtorEq,Nat.reduceEqDiff,i1,hlm];with_reducible rfl)))
    ((repeat' (first|with_reducible (first|refine Q1 ?_|refine Q2 ?_|refine Q3 ?_|refine Q4 ?_|refine Q5 ?_|refine Q6 ?_|refine Q7 ?_|refine Q8 ?_|refine Q9 ?_|refine Qa ?_|refine Qb ?_|refine Qc ?_|refine Qd ?_|refine Qe ?_|refine Qf ?_)|((with_reducible refine Qo ?_ ?_);focus rfl)|((with_reducible first|refine QT 6 (l:=?_) ?_ ?_|refine QF 6 (l:=?_) ?_ ?_);rotate_left 1;focus (simp only [Zu,Nat.reduceSub,Nat.reduceBEq];with_reducible rfl))|((with_reducible refine QC (b:=?_) ?_ ?_);rotate_left 1;focus ((with_reducible refine QW ?_);simp only [Zg,seval,if_true,if_false,reduceCtorEq,Nat.reduceEqDiff,i1,i2,hg,hlm,Int.toNat_natCast];with_reducible rfl))));(with_reducible refine RunK.regCut (cfg_ok 23) (Tab.none.at' 89 hc) 6 (s1:=?_) ?_ ?_);rotate_left 1;(focus ((with_reducible refine QW ?_);simp only [Zg,seval,if_true,if_false,reduceCtorEq,Nat.reduceEqDiff,i1,i2,hg,hlm,Int.toNat_natCast];with_reducible rfl));simp only [List.toList_toArray,List.drop_succ_cons,List.drop_zero])
    refine ROps.bAdd (d:=20) (p:=X) (q:=y) rfl (by rfl) rfl (by decide) rfl rfl (by omega) ?_
    rw [← htk]
    (refine ROps.opsT (cfg_ok 23) (T:=Tab.none) (s':=?_) ?_ ?_;rotate_left 1;focus (simp only [Zg,seval,if_true,if_false,reduceCtorEq,Nat.reduceEqDiff];with_reducible rfl))
    repeat' (first|with_reducible (first|refine Q1 ?_|refine Q2 ?_|refine Q3 ?_|refine Q4 ?_|refine Q5 ?_|refine Q6 ?_|refine Q7 ?_|refine Q8 ?_|refine Q9 ?_|refine Qa ?_|refine Qb ?_|refine Qc ?_|refine Qd ?_|refine Qe ?_|refine Qf ?_)|((with_reducible refine Qo ?_ ?_);focus rfl)|((with_reducible first|refine QT 6 (l:=?_) ?_ ?_|refine QF 6 (l:=?_) ?_ ?_);rotate_left 1;focus (simp only [Zu,Nat.reduceSub,Nat.reduceBEq];with_reducible rfl))|((with_reducible first|refine QS (cfg_ok 23) Tab.none (s':=?_) ?_ ?_|refine QC (b:=?_) ?_ ?_);rotate_left 1;focus ((with_reducible refine QW ?_);simp only [Zg,seval,if_true,if_false,reduceCtorEq,Nat.reduceEqDiff,hw];with_reducible rfl)))
    refine roundK.on (k + 1) ⟨hkb,by omega⟩ ?_
    (repeat' (first|with_reducible refine Qn|((with_reducible refine Qr ?_ ?_);focus (first|with_reducible rfl|(simp only [Zz,Nat.reduceBEq];done)|rfl))|((with_reducible refine Qj (o':=?_) ?_ ?_ ?_);rotate_left 1;focus rfl)|((with_reducible refine Qw ?_ ?_);(focus (first|with_reducible rfl|(simp only [Zv];done)));focus (first|exact id|exact (fun h => nomatch h)|exact (fun _ => rfl)))))
   ·obtain rfl:k = (brs t).length:=by omega
    have i1:((((brs t).length:Nat):Int) < ((brs t).length:Int)) = False:=eq_false (by omega)
    repeat' (first|with_reducible (first|refine Q1 ?_|refine Q2 ?_|refine Q3 ?_|refine Q4 ?_|refine Q5 ?_|refine Q6 ?_|refine Q7 ?_|refine Q8 ?_|refine Q9 ?_|refine Qa ?_|refine Qb ?_|refine Qc ?_|refine Qd ?_|refine Qe ?_|refine Qf ?_)|((with_reducible refine Qo ?_ ?_);focus rfl)|((with_reducible first|refine QT 6 (l:=?_) ?_ ?_|refine QF 6 (l:=?_) ?_ ?_);rotate_left 1;focus (simp only [Zu,Nat.reduceSub,Nat.reduceBEq];with_reducible rfl))|((with_reducible first|refine QS (cfg_ok 23) Tab.none (s':=?_) ?_ ?_|refine QC (b:=?_) ?_ ?_);rotate_left 1;focus ((with_reducible refine QW ?_);simp only [Zg,seval,if_true,if_false,reduceCtorEq,Nat.reduceEqDiff,i1,hlm];with_reducible rfl)))
    refine roundK.out () trivial ?_
    (repeat' (first|with_reducible refine Qn|((with_reducible refine Qr ?_ ?_);focus (first|with_reducible rfl|(simp only [Zz,Nat.reduceBEq];done)|rfl))|((with_reducible refine Qj (o':=?_) ?_ ?_ ?_);rotate_left 1;focus rfl)|((with_reducible refine Qw ?_ ?_);(focus (first|with_reducible rfl|(simp only [Zv];done)));focus (first|exact id|exact (fun h => nomatch h)|exact (fun _ => rfl)))))
  ·rintro ⟨⟩ -
   have hb1:=htl (brs t).length
   repeat' (first|with_reducible (first|refine Q1 ?_|refine Q2 ?_|refine Q3 ?_|refine Q4 ?_|refine Q5 ?_|refine Q6 ?_|refine Q7 ?_|refine Q8 ?_|refine Q9 ?_|refine Qa ?_|refine Qb ?_|refine Qc ?_|refine Qd ?_|refine Qe ?_|refine Qf ?_)|((with_reducible refine Qo ?_ ?_);focus rfl)|((with_reducible first|refine QT 6 (l:=?_) ?_ ?_|refine QF 6 (l:=?_) ?_ ?_);rotate_left 1;focus (simp only [Zu,Nat.reduceSub,Nat.reduceBEq];with_reducible rfl))|((with_reducible first|refine QS (cfg_ok 23) Tab.none (s':=?_) ?_ ?_|refine QC (b:=?_) ?_ ?_);rotate_left 1;focus ((with_reducible refine QW ?_);simp only [Zg,seval,if_true,if_false,reduceCtorEq,Nat.reduceEqDiff];with_reducible rfl)))
   ((repeat' (first|with_reducible (first|refine Q1 ?_|refine Q2 ?_|refine Q3 ?_|refine Q4 ?_|refine Q5 ?_|refine Q6 ?_|refine Q7 ?_|refine Q8 ?_|refine Q9 ?_|refine Qa ?_|refine Qb ?_|refine Qc ?_|refine Qd ?_|refine Qe ?_|refine Qf ?_)|((with_reducible refine Qo ?_ ?_);focus rfl)|((with_reducible first|refine QT 6 (l:=?_) ?_ ?_|refine QF 6 (l:=?_) ?_ ?_);rotate_left 1;focus (simp only [Zu,Nat.reduceSub,Nat.reduceBEq];with_reducible rfl))|((with_reducible refine QC (b:=?_) ?_ ?_);rotate_left 1;focus ((with_reducible refine QW ?_);simp only [Zg,seval,if_true,if_false,reduceCtorEq,Nat.reduceEqDiff];with_reducible rfl))));(with_reducible refine RunK.regCut (cfg_ok 23) Tab.none 1 (s1:=?_) ?_ ?_);rotate_left 1;(focus ((with_reducible refine QW ?_);simp only [Zg,seval,if_true,if_false,reduceCtorEq,Nat.reduceEqDiff];with_reducible rfl));simp only [List.toList_toArray,List.drop_succ_cons,List.drop_zero])
   refine ROps.bAdd (d:=22) (p:=txtTo n t (brs t).length) (q:=[93]) rfl (by rfl) rfl (by decide) rfl rfl (by show _ + 1 ≤ _;omega) ?_
   (refine ROps.opsT (cfg_ok 23) (T:=Tab.none) (s':=?_) ?_ ?_;rotate_left 1;focus (simp only [Zg,seval,if_true,if_false,reduceCtorEq,Nat.reduceEqDiff];with_reducible rfl))
   repeat' (first|with_reducible (first|refine Q1 ?_|refine Q2 ?_|refine Q3 ?_|refine Q4 ?_|refine Q5 ?_|refine Q6 ?_|refine Q7 ?_|refine Q8 ?_|refine Q9 ?_|refine Qa ?_|refine Qb ?_|refine Qc ?_|refine Qd ?_|refine Qe ?_|refine Qf ?_)|((with_reducible refine Qo ?_ ?_);focus rfl)|((with_reducible first|refine QT 6 (l:=?_) ?_ ?_|refine QF 6 (l:=?_) ?_ ?_);rotate_left 1;focus (simp only [Zu,Nat.reduceSub,Nat.reduceBEq];with_reducible rfl))|((with_reducible first|refine QS (cfg_ok 23) Tab.none (s':=?_) ?_ ?_|refine QC (b:=?_) ?_ ?_);rotate_left 1;focus ((with_reducible refine QW ?_);simp only [Zg,seval,if_true,if_false,reduceCtorEq,Nat.reduceEqDiff];with_reducible rfl)))
   (refine Ends.mk (by simp) (rs:=?_) (ks:=?_) hres hrts ?_ ?_ ?_;rotate_left 2;(focus (simp only [Ze,Zg,seval,if_true,if_false,reduceCtorEq,Nat.reduceEqDiff];with_reducible rfl));(focus simp);focus (first|with_reducible rfl|(simp only [Zv];done)))
end Go.Proofs.Ytedgfkpfhonlpaa
namespace Go.Proofs.Ytedgfkpfhonlpaa
open Go.RowKit
def RU:Rep Int where
 k:=1
 rd:=fun _ _ cs n => cs = [.int .u8 n]∧0 ≤ n∧n ≤ 255
 own:=fun _ cs n F => (cs = [.int .u8 n]∧0 ≤ n∧n ≤ 255)∧F = []
 kpos:=by decide
 rd_len:=by intro A w cs x h;rw [h.1];rfl
 rd_one:=by intro A w cs x h v hv;rw [h.1] at hv;simp at hv;subst hv;rfl
 rd_frame:=fun h _ => h
 rd_mono:=fun h _ => h
 own_rd:=fun h => h.1
 own_frame:=fun h _ => h
 own_lt:=by intro w cs x F h b hb;rw [h.2] at hb;simp at hb
abbrev RBytes:Rep (List Int):=RS RU
theorem opU8:Opens Try.prog RU 5:=by
 intro H enc w base spare held fuel cs x h
 obtain ⟨n,rfl,_,hw⟩:=DataW.trod_int Try.underlying5 h
 exact ⟨n,rfl,bounds_u8 hw⟩
theorem opBytes:Opens Try.prog RBytes 22:=Opens.slice Try.underlying22 (by kernel_rfl) opU8
theorem rdU_to {A:Nat→Prop} {w:World}:∀ {code:List Int} {ds:List Value},rdL RU A w ds code→rdL (RK 1 (by decide) (RC 0)) A w ds (code.map eU)∧Bytes code
 | [],_,h => ⟨h,fun c hc => nomatch hc⟩
 | c :: code,ds,⟨c1,d1,e,⟨h1,h2,h3⟩,h4⟩ => by
  obtain ⟨h5,h6⟩:=rdU_to h4
  refine ⟨⟨c1,d1,e,⟨by rw [h1];rfl,rfl,?_⟩,h5⟩,fun x hx => ?_⟩
  ·rw [h1]
   exact rdL_one1.2 ⟨rfl,rfl⟩
  ·rcases List.mem_cons.1 hx with rfl|hx
   ·omega
   ·exact h6 x hx
theorem arg_bytes {w:World} {u:Value} {code:List Int} (h:Rd RBytes w [u] code):relArg (· < w.heap.size) w (eCode code) u∧Bytes code:=by
 obtain ⟨oa,cap,ds,h1,h2,h3,h4,h5,h6⟩:=h
 obtain ⟨k1,k2⟩:=rdU_to h5
 refine ⟨?_,k2⟩
 show rdV _ w u (.sl 1 (code.map eU))
 rw [rdV_sl]
 rw [List.length_map]
 exact ⟨oa,cap,ds,(List.cons.inj h1).1,h2,h3,h4,⟨0,by decide,k1⟩,h6⟩
theorem law_code {f:FuncId} (hf:∀ code:List Int,Bytes code→AFn Try.prog f [eCode code] (· = [.val (.bool true)])) (v:Value) (code:List Int) (w:World) (h:Rd RBytes w [v] code):Calls Try.prog f #[v] w (RetV w (.bool true)):=by
 obtain ⟨h1,h2⟩:=arg_bytes h
 exact AFn.one (fun _ _ _ h => rdV_bool.1 h) (hf code h2) (args1 h1)
theorem a_big (code:List Int):AFn Try.prog 5 [eCode code] (· = [.val (.bool (decide (4096 < code.length)))]):=by
 by_cases h:4096 < code.length
 ·have i1:((code.length:Int) > 4096) = True:=eq_true (by omega)
  rw [decide_eq_true h]
  refine AFn.of_runs (cfg_ok 6) Try.func5 rfl rfl rfl (by simp only [List.length_cons,List.length_nil];decide) ?_
  have hres:Try.f5.results.toList = [.tmp 2]:=rfl
  have hrts:Try.f5.resultTypes.toList = [4]:=rfl
  simp only [argRegs,argAV1,eL,eI,eLL,eB,Nat.zero_add,Nat.reduceAdd,eCode,dCode]
  intro M
  refine RunK.of ?_
  repeat' (first|with_reducible (first|refine Q1 ?_|refine Q2 ?_|refine Q3 ?_|refine Q4 ?_|refine Q5 ?_|refine Q6 ?_|refine Q7 ?_|refine Q8 ?_|refine Q9 ?_|refine Qa ?_|refine Qb ?_|refine Qc ?_|refine Qd ?_|refine Qe ?_|refine Qf ?_)|((with_reducible refine Qo ?_ ?_);focus rfl)|((with_reducible first|refine QT 3 (l:=?_) ?_ ?_|refine QF 3 (l:=?_) ?_ ?_);rotate_left 1;focus (simp only [Zu,Nat.reduceSub,Nat.reduceBEq];with_reducible rfl))|((with_reducible first|refine QS (cfg_ok 6) Tab.none (s':=?_) ?_ ?_|refine QC (b:=?_) ?_ ?_);rotate_left 1;focus ((with_reducible refine QW ?_);simp only [Zg,seval,if_true,if_false,reduceCtorEq,Nat.reduceEqDiff,i1,List.length_map];with_reducible rfl)))
  (refine Ends.mk (by simp) (rs:=?_) (ks:=?_) hres hrts ?_ ?_ ?_;rotate_left 2;(focus (simp only [Ze,Zg,seval,if_true,if_false,reduceCtorEq,Nat.reduceEqDiff];with_reducible rfl));(focus simp);focus (first|with_reducible rfl|(simp only [Zv];done)))
 ·have i1:((code.length:Int) > 4096) = False:=eq_false (by omega)
  rw [decide_eq_false h]
  refine AFn.of_runs (cfg_ok 6) Try.func5 rfl rfl rfl (by simp only [List.length_cons,List.length_nil];decide) ?_
  have hres:Try.f5.results.toList = [.tmp 2]:=rfl
  have hrts:Try.f5.resultTypes.toList = [4]:=rfl
  simp only [argRegs,argAV1,eL,eI,eLL,eB,Nat.zero_add,Nat.reduceAdd,eCode,dCode]
  intro M
  refine RunK.of ?_
  repeat' (first|with_reducible (first|refine Q1 ?_|refine Q2 ?_|refine Q3 ?_|refine Q4 ?_|refine Q5 ?_|refine Q6 ?_|refine Q7 ?_|refine Q8 ?_|refine Q9 ?_|refine Qa ?_|refine Qb ?_|refine Qc ?_|refine Qd ?_|refine Qe ?_|refine Qf ?_)|((with_reducible refine Qo ?_ ?_);focus rfl)|((with_reducible first|refine QT 3 (l:=?_) ?_ ?_|refine QF 3 (l:=?_) ?_ ?_);rotate_left 1;focus (simp only [Zu,Nat.reduceSub,Nat.reduceBEq];with_reducible rfl))|((with_reducible first|refine QS (cfg_ok 6) Tab.none (s':=?_) ?_ ?_|refine QC (b:=?_) ?_ ?_);rotate_left 1;focus ((with_reducible refine QW ?_);simp only [Zg,seval,if_true,if_false,reduceCtorEq,Nat.reduceEqDiff,i1,List.length_map];with_reducible rfl)))
  (refine Ends.mk (by simp) (rs:=?_) (ks:=?_) hres hrts ?_ ?_ ?_;rotate_left 2;(focus (simp only [Ze,Zg,seval,if_true,if_false,reduceCtorEq,Nat.reduceEqDiff];with_reducible rfl));(focus simp);focus (first|with_reducible rfl|(simp only [Zv];done)))
end Go.Proofs.Ytedgfkpfhonlpaa

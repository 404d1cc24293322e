/- Lemmas (12). -/
import Derived.Deep.RegionLaw
import Derived.Lib.AppendZeros
import Derived.Test.YtedgfkpfhonlpaaZA0
import Derived.Test.YtedgfkpfhonlpaaZA1
import Derived.Test.YtedgfkpfhonlpaaZA7
import Derived.Test.YtedgfkpfhonlpaaZA8
import Derived.Test.YtedgfkpfhonlpaaZA9
import Derived.Test.YtedgfkpfhonlpaaZA10
import Derived.Test.YtedgfkpfhonlpaaZA11
set_option linter.unusedSimpArgs false
set_option linter.unusedVariables false
namespace Go.Proofs.Ytedgfkpfhonlpaa
open Go.RowKit
section
variable {α:Type} {c:α→α→Int} {xs ys zs:List α}
def Mul (s a:Nat):Prop:=∃ k,a = k * s
theorem Mul.zero (s:Nat):Mul s 0:=⟨0,by simp⟩
theorem Mul.add {s a:Nat} (h:Mul s a):Mul s (a + s):=by obtain ⟨k,rfl⟩:=h;exact ⟨k + 1,by rw [Nat.succ_mul]⟩
theorem Mul.half {s t a:Nat} (ht:t = 2 * s) (h:Mul t a):Mul s a:=by obtain ⟨k,rfl⟩:=h;exact ⟨k * 2,by rw [ht,Nat.mul_assoc]⟩
theorem Mul.gap {t x a:Nat} (h:Mul t x) (k:Mul t a) (hlt:x < a):x + t ≤ a:=by
 obtain ⟨i,rfl⟩:=h
 obtain ⟨j,rfl⟩:=k
 have hij:i < j:=Nat.lt_of_not_le fun h => by have:=Nat.mul_le_mul_right t h;omega
 have:=Nat.mul_le_mul_right t (show i + 1 ≤ j from hij)
 rw [Nat.succ_mul] at this
 exact this
def InB (c:α→α→Int) (s a:Nat) (xs:List α):Prop:=∀ x,Mul s x→x < a→SegOk c x (x + s) xs
theorem InB.zero (s:Nat):InB c s 0 xs:=fun _ _ h => absurd h (Nat.not_lt_zero _)
theorem InB.step {s a:Nat} (h:InB c s a xs) (ha:Mul s a) (hp:PermIn a (a + s) xs ys) (hs:SegOk c a (a + s) ys):InB c s (a + s) ys:=by
 intro x hx hlt
 by_cases e:x < a
 ·exact (h x hx e).perm hp (.inl (hx.gap ha e))
 ·by_cases e2:x = a
  ·subst e2;exact hs
  ·have:=ha.gap hx (by omega);omega
def Ph (c:α→α→Int) (s t a n:Nat) (xs:List α):Prop:=InB c t a xs∧∀ x,Mul s x→a ≤ x→SegOk c x (min (x + s) n) xs
theorem Ph.one {s t a n:Nat} (ht:t = 2 * s) (h:Ph c s t a n xs) (ha:Mul t a) (hm:a + s ≤ n):SegOk c a (a + s) xs:=by
 have:=h.2 a (ha.half ht) (Nat.le_refl _)
 rwa [Nat.min_eq_left hm] at this
theorem Ph.step {s t a n:Nat} (h:Ph c s t a n xs) (ha:Mul t a) (hp:PermIn a (a + t) xs ys) (hs:SegOk c a (a + t) ys):Ph c s t (a + t) n ys :=
 ⟨h.1.step ha hp hs,fun x hx hle => (h.2 x hx (by omega)).perm hp (.inr hle)⟩
end
end Go.Proofs.Ytedgfkpfhonlpaa
namespace Go.Proofs.Ytedgfkpfhonlpaa
open Go.RowKit
theorem a_branchesOf2 (t:List Int) (h:LevP t) (hl:t.length ≤ 1000):AFn Try.prog 49 [eL t] (· = [.own 1 ((brs t).map eL) true]) :=
 afn_L_oo (enters_of Try.func49 rfl rfl) (fun u w h' => c_impl_branchesOf u t w h' h (by omega))
theorem a_l03Parts2 (t:List Int) (h:LevP t) (hl:t.length ≤ 1000):AFn Try.prog 40 [eL t] (· = [.own 1 ((brs t).map eL) true]) :=
 afn_L_oo (enters_of Try.func40 rfl rfl) (fun u w h' => c_spec_l03Parts u t w h' h (by omega))
def brO2 (t:List Int):List (List Int) × Int:=if lev8 t = true then (forest (brs (canon t)),0) else ([],1)
set_option maxHeartbeats 4000000 in
theorem a_impl_BranchesOf2 (t:List Int):AFn Try.prog 14 [eL t] (· = [.own 1 ((brO2 t).1.map eL) true,.val (.int (brO2 t).2)]):=by
 have hl:=a_impl_IsLevels t
 simp only [eL] at hl
 unfold brO2
 by_cases h8:lev8 t = true
 ·rw [h8] at hl
  rw [if_pos h8]
  have hc8:=lev8_canon h8
  have hlc:=lev8_len hc8
  have hsb:=sumLen_brs (lev8_lev hc8)
  have hfw:=brs_few (lev8_lev hc8)
  have hca:=AFn.valT (a_canonical t (lev8_lev h8) (lev8_len h8))
  have hbr:=AFn.valT (a_branchesOf2 (canon t) (lev8_lev hc8) (by omega))
  have hfo:=a_forestOf (brs (canon t)) (by omega) (by omega)
  simp only [eL,eLL] at hca hbr hfo
  refine AFn.of_runs (cfg_ok 11) Try.func14 rfl rfl rfl (by simp only [List.length_cons,List.length_nil];decide) ?_
  have hres:Try.f14.results.toList = [.tmp 2,.tmp 3]:=rfl
  have hrts:Try.f14.resultTypes.toList = [33,2]:=rfl
  simp only [argRegs,argAV1,eL,eI,eLL,eB,Nat.zero_add,Nat.reduceAdd]
  intro M
  refine RunK.of ?_
  repeat' (first|with_reducible (first|refine Q1 ?_|refine Q2 ?_|refine Q3 ?_|refine Q4 ?_|refine Q5 ?_|refine Q6 ?_|refine Q7 ?_|refine Q8 ?_|refine Q9 ?_|refine Qa ?_|refine Qb ?_|refine Qc ?_|refine Qd ?_|refine Qe ?_|refine Qf ?_)|((with_reducible refine Qo ?_ ?_);focus rfl)|((with_reducible first|refine QT 4 (l:=?_) ?_ ?_|refine QF 4 (l:=?_) ?_ ?_);rotate_left 1;focus (simp only [Zu,Nat.reduceSub,Nat.reduceBEq];with_reducible rfl))|((with_reducible first|refine QS (cfg_ok 11) ((((Tab.none.at' 9 hl).at' 43 hca).at' 49 hbr).at' 48 hfo) (s':=?_) ?_ ?_|refine QC (b:=?_) ?_ ?_);rotate_left 1;focus ((with_reducible refine QW ?_);simp only [Zg,seval,if_true,if_false,reduceCtorEq,Nat.reduceEqDiff];with_reducible rfl)))
  (refine Ends.mk (by simp) (rs:=?_) (ks:=?_) hres hrts ?_ ?_ ?_;rotate_left 2;(focus (simp only [Ze,Zg,seval,if_true,if_false,reduceCtorEq,Nat.reduceEqDiff];with_reducible rfl));(focus simp);focus (first|with_reducible rfl|(simp only [Zv];done)))
 ·have h8':lev8 t = false:=by simpa using h8
  rw [h8'] at hl
  rw [if_neg h8]
  refine AFn.of_runs (cfg_ok 11) Try.func14 rfl rfl rfl (by simp only [List.length_cons,List.length_nil];decide) ?_
  have hres:Try.f14.results.toList = [.tmp 2,.tmp 3]:=rfl
  have hrts:Try.f14.resultTypes.toList = [33,2]:=rfl
  simp only [argRegs,argAV1,eL,eI,eLL,eB,Nat.zero_add,Nat.reduceAdd]
  intro M
  refine RunK.of ?_
  repeat' (first|with_reducible (first|refine Q1 ?_|refine Q2 ?_|refine Q3 ?_|refine Q4 ?_|refine Q5 ?_|refine Q6 ?_|refine Q7 ?_|refine Q8 ?_|refine Q9 ?_|refine Qa ?_|refine Qb ?_|refine Qc ?_|refine Qd ?_|refine Qe ?_|refine Qf ?_)|((with_reducible refine Qo ?_ ?_);focus rfl)|((with_reducible first|refine QT 4 (l:=?_) ?_ ?_|refine QF 4 (l:=?_) ?_ ?_);rotate_left 1;focus (simp only [Zu,Nat.reduceSub,Nat.reduceBEq];with_reducible rfl))|((with_reducible first|refine QS (cfg_ok 11) (Tab.none.at' 9 hl) (s':=?_) ?_ ?_|refine QC (b:=?_) ?_ ?_);rotate_left 1;focus ((with_reducible refine QW ?_);simp only [Zg,seval,if_true,if_false,reduceCtorEq,Nat.reduceEqDiff];with_reducible rfl)))
  (refine Ends.mk (by simp) (rs:=?_) (ks:=?_) hres hrts ?_ ?_ ?_;rotate_left 2;(focus (simp only [Ze,Zg,seval,if_true,if_false,reduceCtorEq,Nat.reduceEqDiff];with_reducible rfl));(focus simp);focus (first|with_reducible rfl|(simp only [Zv];done)))
end Go.Proofs.Ytedgfkpfhonlpaa
namespace Go.Proofs.Ytedgfkpfhonlpaa
open Go.RowKit
set_option maxHeartbeats 4000000 in
theorem a_nodes9 (f:List (List Int)) (h1:f.length ≤ 1048576) (h2:sumLen f ≤ 1048576):AFn Try.prog 16 [eLL f] (· = [.val (.int (sumLen f:Nat))]):=by
 have hfm:(f.map eL).length = f.length:=List.length_map _
 refine AFn.of_runs (cfg_ok 19) Try.func16 rfl rfl rfl (by simp only [List.length_cons,List.length_nil];decide) ?_
 have hres:Try.f16.results.toList = [.tmp 2]:=rfl
 have hrts:Try.f16.resultTypes.toList = [2]:=rfl
 simp only [argRegs,argAV1,eL,eI,eLL,eB,Nat.zero_add,Nat.reduceAdd]
 intro M
 refine RunK.of ?_
 repeat' (first|with_reducible (first|refine Q1 ?_|refine Q2 ?_|refine Q3 ?_|refine Q4 ?_|refine Q5 ?_|refine Q6 ?_|refine Q7 ?_|refine Q8 ?_|refine Q9 ?_|refine Qa ?_|refine Qb ?_|refine Qc ?_|refine Qd ?_|refine Qe ?_|refine Qf ?_)|((with_reducible refine Qo ?_ ?_);focus rfl)|((with_reducible first|refine QT 5 (l:=?_) ?_ ?_|refine QF 5 (l:=?_) ?_ ?_);rotate_left 1;focus (simp only [Zu,Nat.reduceSub,Nat.reduceBEq];with_reducible rfl))|((with_reducible first|refine QS (cfg_ok 19) Tab.none (s':=?_) ?_ ?_|refine QC (b:=?_) ?_ ?_);rotate_left 1;focus ((with_reducible refine QW ?_);simp only [Zg,seval,if_true,if_false,reduceCtorEq,Nat.reduceEqDiff];with_reducible rfl)))
 refine RunK.loop (β:=Nat) (γ:=Unit) (fun i => ⟨[(0,.c (.val (.sl 1 (f.map eL)))),(3,.c (.val (.int (sumLen (f.take i):Nat)))),(4,.c (.val (.int i)))],[]⟩) (fun i => i ≤ f.length) (fun i => f.length - i)
  (fun _ => ⟨[(3,.c (.val (.int (sumLen f:Nat))))],[]⟩) (fun _ => True) 0 (Nat.zero_le _) ?_ ?_ ?_
 ·(repeat' (first|with_reducible refine Qn|((with_reducible refine Qr ?_ ?_);focus (first|with_reducible rfl|(simp only [Zz,Nat.reduceBEq,List.take_zero,show sumLen [] = 0 from rfl,Int.natCast_zero];done)|rfl))|((with_reducible refine Qj (o':=?_) ?_ ?_ ?_);rotate_left 1;focus rfl)|((with_reducible refine Qw ?_ ?_);(focus (first|with_reducible rfl|(simp only [Zv,List.take_zero,show sumLen [] = 0 from rfl,Int.natCast_zero];done)));focus (first|exact id|exact (fun h => nomatch h)|exact (fun _ => rfl)))))
 ·intro i hi
  have hi:i ≤ f.length:=hi
  have hw:=w64_succ (n:=i) (by omega)
  by_cases h:i < f.length
  ·have i1:((i:Int) < (f.length:Int)) = True:=eq_true (by omega)
   have i2:((0:Int) ≤ (i:Int)) = True:=eq_true (by omega)
   have hg:(f.map eL)[i]? = some (eL f[i]):=by rw [List.getElem?_map,List.getElem?_eq_getElem h];rfl
   have hs:=sumLen_take_succ f i h
   have hle:=sumLen_take f (i + 1)
   have hlm:(f[i].map eI).length = f[i].length:=List.length_map _
   have w1:w64 (((sumLen (f.take i):Nat):Int) + (f[i].length:Int)) = ((sumLen (f.take (i + 1)):Nat):Int):=by rw [hs,w64_eq (by omega)];omega
   simp only [eL] at hg
   repeat' (first|with_reducible (first|refine Q1 ?_|refine Q2 ?_|refine Q3 ?_|refine Q4 ?_|refine Q5 ?_|refine Q6 ?_|refine Q7 ?_|refine Q8 ?_|refine Q9 ?_|refine Qa ?_|refine Qb ?_|refine Qc ?_|refine Qd ?_|refine Qe ?_|refine Qf ?_)|((with_reducible refine Qo ?_ ?_);focus rfl)|((with_reducible first|refine QT 5 (l:=?_) ?_ ?_|refine QF 5 (l:=?_) ?_ ?_);rotate_left 1;focus (simp only [Zu,Nat.reduceSub,Nat.reduceBEq];with_reducible rfl))|((with_reducible first|refine QS (cfg_ok 19) Tab.none (s':=?_) ?_ ?_|refine QC (b:=?_) ?_ ?_);rotate_left 1;focus ((with_reducible refine QW ?_);simp only [Zg,seval,if_true,if_false,reduceCtorEq,Nat.reduceEqDiff,i1,i2,hfm,hg,hlm,w1,hw,Int.toNat_natCast];with_reducible rfl)))
   refine roundK.on (i + 1) ⟨h,by omega⟩ ?_
   (repeat' (first|with_reducible refine Qn|((with_reducible refine Qr ?_ ?_);focus (first|with_reducible rfl|(simp only [Zz,Nat.reduceBEq];done)|rfl))|((with_reducible refine Qj (o':=?_) ?_ ?_ ?_);rotate_left 1;focus rfl)|((with_reducible refine Qw ?_ ?_);(focus (first|with_reducible rfl|(simp only [Zv];done)));focus (first|exact id|exact (fun h => nomatch h)|exact (fun _ => rfl)))))
  ·have i1:((i:Int) < (f.length:Int)) = False:=eq_false (by omega)
   obtain rfl:i = f.length:=by omega
   rw [List.take_length]
   repeat' (first|with_reducible (first|refine Q1 ?_|refine Q2 ?_|refine Q3 ?_|refine Q4 ?_|refine Q5 ?_|refine Q6 ?_|refine Q7 ?_|refine Q8 ?_|refine Q9 ?_|refine Qa ?_|refine Qb ?_|refine Qc ?_|refine Qd ?_|refine Qe ?_|refine Qf ?_)|((with_reducible refine Qo ?_ ?_);focus rfl)|((with_reducible first|refine QT 5 (l:=?_) ?_ ?_|refine QF 5 (l:=?_) ?_ ?_);rotate_left 1;focus (simp only [Zu,Nat.reduceSub,Nat.reduceBEq];with_reducible rfl))|((with_reducible first|refine QS (cfg_ok 19) Tab.none (s':=?_) ?_ ?_|refine QC (b:=?_) ?_ ?_);rotate_left 1;focus ((with_reducible refine QW ?_);simp only [Zg,seval,if_true,if_false,reduceCtorEq,Nat.reduceEqDiff,i1,hfm];with_reducible rfl)))
   refine roundK.out () trivial ?_
   (repeat' (first|with_reducible refine Qn|((with_reducible refine Qr ?_ ?_);focus (first|with_reducible rfl|(simp only [Zz,Nat.reduceBEq];done)|rfl))|((with_reducible refine Qj (o':=?_) ?_ ?_ ?_);rotate_left 1;focus rfl)|((with_reducible refine Qw ?_ ?_);(focus (first|with_reducible rfl|(simp only [Zv];done)));focus (first|exact id|exact (fun h => nomatch h)|exact (fun _ => rfl)))))
 intro _ _
 repeat' (first|with_reducible (first|refine Q1 ?_|refine Q2 ?_|refine Q3 ?_|refine Q4 ?_|refine Q5 ?_|refine Q6 ?_|refine Q7 ?_|refine Q8 ?_|refine Q9 ?_|refine Qa ?_|refine Qb ?_|refine Qc ?_|refine Qd ?_|refine Qe ?_|refine Qf ?_)|((with_reducible refine Qo ?_ ?_);focus rfl)|((with_reducible first|refine QT 5 (l:=?_) ?_ ?_|refine QF 5 (l:=?_) ?_ ?_);rotate_left 1;focus (simp only [Zu,Nat.reduceSub,Nat.reduceBEq];with_reducible rfl))|((with_reducible first|refine QS (cfg_ok 19) Tab.none (s':=?_) ?_ ?_|refine QC (b:=?_) ?_ ?_);rotate_left 1;focus ((with_reducible refine QW ?_);simp only [Zg,seval,if_true,if_false,reduceCtorEq,Nat.reduceEqDiff];with_reducible rfl)))
 (refine Ends.mk (by simp) (rs:=?_) (ks:=?_) hres hrts ?_ ?_ ?_;rotate_left 2;(focus (simp only [Ze,Zg,seval,if_true,if_false,reduceCtorEq,Nat.reduceEqDiff];with_reducible rfl));(focus simp);focus (first|with_reducible rfl|(simp only [Zv];done)))
end Go.Proofs.Ytedgfkpfhonlpaa
namespace Go.Proofs.Ytedgfkpfhonlpaa
open Go.RowKit
theorem densF_in:∀ (n:Nat) (t:List Int),t.length ≤ 1000000→In64 (densF n t)
 | 0,t,_ => by unfold densF In64;omega
 | n + 1,t,h => by
  show In64 ((brs t).foldl (fun o b => wrap64 (o * densF n b)) t.length)
  generalize brs t = l
  have key:∀ (l:List (List Int)) (a:Int),In64 a→In64 (l.foldl (fun o b => wrap64 (o * densF n b)) a):=by
   intro l
   induction l with
   | nil => exact fun a ha => ha
   | cons b l ih => exact fun a _ => ih _ (by show In64 (wrap64 _);unfold In64 wrap64;omega)
  exact key l _ (by unfold In64;omega)
theorem for_short {f:List (List Int)} (h:forB f = true):f.length ≤ 8:=forB_short h
theorem canT_canon {t:List Int} (h:lev8 t = true):canT (canon t) = true:=by
 unfold canT
 rw [lev8_canon h,canon_idem (lev8_lev h)];simp
theorem small_for {f:List (List Int)} (h:forB f = true):Small f:=fun b hb x hx => by
 have hl:=forB_lev h b hb
 obtain ⟨i,hi,rfl⟩:=List.getElem_of_mem hx
 have:=hl.bd i hi
 have:=sumLen_mem hb
 have:=(forB_spec h).1
 omega
theorem a_spec_IsLevels (t:List Int) (hsz:t.length ≤ 1048576):AFn Try.prog 10 [eL t] (· = [.val (.bool (lev8 t))]):=by
 have hl:=a_spec_l03Is t hsz
 simp only [eL] at hl ⊢
 refine AFn.of_runs (cfg_ok 5) Try.func10 rfl rfl rfl (by simp only [List.length_cons,List.length_nil];decide) ?_
 have hres:Try.f10.results.toList = [.tmp 2]:=rfl
 have hrts:Try.f10.resultTypes.toList = [4]:=rfl
 simp only [argRegs,argAV1,eL,eI,eLL,eB,Nat.zero_add,Nat.reduceAdd]
 intro M
 refine RunK.of ?_
 repeat' (first|with_reducible (first|refine Q1 ?_|refine Q2 ?_|refine Q3 ?_|refine Q4 ?_|refine Q5 ?_|refine Q6 ?_|refine Q7 ?_|refine Q8 ?_|refine Q9 ?_|refine Qa ?_|refine Qb ?_|refine Qc ?_|refine Qd ?_|refine Qe ?_|refine Qf ?_)|((with_reducible refine Qo ?_ ?_);focus rfl)|((with_reducible first|refine QT 3 (l:=?_) ?_ ?_|refine QF 3 (l:=?_) ?_ ?_);rotate_left 1;focus (simp only [Zu,Nat.reduceSub,Nat.reduceBEq];with_reducible rfl))|((with_reducible first|refine QS (cfg_ok 5) (Tab.none.at' 38 hl) (s':=?_) ?_ ?_|refine QC (b:=?_) ?_ ?_);rotate_left 1;focus ((with_reducible refine QW ?_);simp only [Zg,seval,if_true,if_false,reduceCtorEq,Nat.reduceEqDiff];with_reducible rfl)))
 (refine Ends.mk (by simp) (rs:=?_) (ks:=?_) hres hrts ?_ ?_ ?_;rotate_left 2;(focus (simp only [Ze,Zg,seval,if_true,if_false,reduceCtorEq,Nat.reduceEqDiff];with_reducible rfl));(focus simp);focus (first|with_reducible rfl|(simp only [Zv];done)))
noncomputable def TCa3:Tab Try.prog:=((Tab.none.add 44 (tab1 codL fun t => if lev8 t = true then some [.own 1 ((canon t).map eI) true] else none) (tab1_ok fun t rs h => by split at h;cases h;exact a_l03Canon t (lev8_lev ‹_›) (lev8_len ‹_›);cases h)).add
 38 (tab1 codL fun t => if t.length ≤ 1048576 then some [.val (.bool (lev8 t))] else none) (tab1_ok fun t rs h => by split at h;cases h;exact a_spec_l03Is t ‹_›;cases h)).add
 45 (tab2 codL codL fun x y => some [.val (.bool (decide (cmpT x y < 0)))]) (tab2_ok fun x y rs h => by cases h;exact a_l03Before x y)
set_option maxHeartbeats 4000000 in
theorem a_spec_CompareTrees (s t:List Int) (h1:s.length ≤ 1048576) (h2:t.length ≤ 1048576):AFn Try.prog 8 [eL s,eL t] (· = [.val (.int (sgT s t).1),.val (.int (sgT s t).2)]):=by
 have han:=cmpT_cmp.anti (canon t) (canon s)
 have i1:=eq_true h1
 have i2:=eq_true h2
 obtain ⟨c,hc⟩:∃ c,c = cmpT (canon s) (canon t):=⟨_,rfl⟩
 have e2:decide (cmpT (canon t) (canon s) < 0) = decide (0 < c):=by
  rw [hc];exact decide_eq_decide.2 han
 have e1:decide (cmpT (canon s) (canon t) < 0) = decide (c < 0):=by rw [hc]
 unfold sgT
 rw [← hc]
 unfold sgI
 simp only [eL]
 refine AFn.of_runs (cfg_ok 28) Try.func8 rfl rfl rfl (by simp only [List.length_cons,List.length_nil];decide) ?_
 have hres:Try.f8.results.toList = [.tmp 4,.tmp 5]:=rfl
 have hrts:Try.f8.resultTypes.toList = [2,2]:=rfl
 simp only [argRegs,argAV1,eL,eI,eLL,eB,Nat.zero_add,Nat.reduceAdd]
 intro M
 refine RunK.of ?_
 by_cases c1:lev8 s = true
 rotate_left
 ·have c1':lev8 s = false:=by simpa using c1
  rw [if_neg (fun h => c1 h.1)]
  repeat' (first|with_reducible (first|refine Q1 ?_|refine Q2 ?_|refine Q3 ?_|refine Q4 ?_|refine Q5 ?_|refine Q6 ?_|refine Q7 ?_|refine Q8 ?_|refine Q9 ?_|refine Qa ?_|refine Qb ?_|refine Qc ?_|refine Qd ?_|refine Qe ?_|refine Qf ?_)|((with_reducible refine Qo ?_ ?_);focus rfl)|((with_reducible first|refine QT 8 (l:=?_) ?_ ?_|refine QF 8 (l:=?_) ?_ ?_);rotate_left 1;focus (simp only [Zu,Nat.reduceSub,Nat.reduceBEq];with_reducible rfl))|((with_reducible first|refine QS (cfg_ok 28) TCa3 (s':=?_) ?_ ?_|refine QC (b:=?_) ?_ ?_);rotate_left 1;focus ((with_reducible refine QW ?_);simp only [Zg,seval,if_true,if_false,reduceCtorEq,Nat.reduceEqDiff,TCa3,c1',i1,i2];with_reducible rfl)))
  (refine Ends.mk (by simp) (rs:=?_) (ks:=?_) hres hrts ?_ ?_ ?_;rotate_left 2;(focus (simp only [Ze,Zg,seval,if_true,if_false,reduceCtorEq,Nat.reduceEqDiff];with_reducible rfl));(focus simp);focus (first|with_reducible rfl|(simp only [Zv];done)))
 by_cases c2:lev8 t = true
 rotate_left
 ·have c2':lev8 t = false:=by simpa using c2
  rw [if_neg (fun h => c2 h.2)]
  repeat' (first|with_reducible (first|refine Q1 ?_|refine Q2 ?_|refine Q3 ?_|refine Q4 ?_|refine Q5 ?_|refine Q6 ?_|refine Q7 ?_|refine Q8 ?_|refine Q9 ?_|refine Qa ?_|refine Qb ?_|refine Qc ?_|refine Qd ?_|refine Qe ?_|refine Qf ?_)|((with_reducible refine Qo ?_ ?_);focus rfl)|((with_reducible first|refine QT 8 (l:=?_) ?_ ?_|refine QF 8 (l:=?_) ?_ ?_);rotate_left 1;focus (simp only [Zu,Nat.reduceSub,Nat.reduceBEq];with_reducible rfl))|((with_reducible first|refine QS (cfg_ok 28) TCa3 (s':=?_) ?_ ?_|refine QC (b:=?_) ?_ ?_);rotate_left 1;focus ((with_reducible refine QW ?_);simp only [Zg,seval,if_true,if_false,reduceCtorEq,Nat.reduceEqDiff,TCa3,c1,c2',i1,i2];with_reducible rfl)))
  (refine Ends.mk (by simp) (rs:=?_) (ks:=?_) hres hrts ?_ ?_ ?_;rotate_left 2;(focus (simp only [Ze,Zg,seval,if_true,if_false,reduceCtorEq,Nat.reduceEqDiff];with_reducible rfl));(focus simp);focus (first|with_reducible rfl|(simp only [Zv];done)))
 rw [if_pos ⟨c1,c2⟩]
 by_cases k1:c < 0
 ·rw [decide_eq_true k1] at e1
  rw [if_pos k1]
  repeat' (first|with_reducible (first|refine Q1 ?_|refine Q2 ?_|refine Q3 ?_|refine Q4 ?_|refine Q5 ?_|refine Q6 ?_|refine Q7 ?_|refine Q8 ?_|refine Q9 ?_|refine Qa ?_|refine Qb ?_|refine Qc ?_|refine Qd ?_|refine Qe ?_|refine Qf ?_)|((with_reducible refine Qo ?_ ?_);focus rfl)|((with_reducible first|refine QT 8 (l:=?_) ?_ ?_|refine QF 8 (l:=?_) ?_ ?_);rotate_left 1;focus (simp only [Zu,Nat.reduceSub,Nat.reduceBEq];with_reducible rfl))|((with_reducible first|refine QS (cfg_ok 28) TCa3 (s':=?_) ?_ ?_|refine QC (b:=?_) ?_ ?_);rotate_left 1;focus ((with_reducible refine QW ?_);simp only [Zg,seval,if_true,if_false,reduceCtorEq,Nat.reduceEqDiff,TCa3,c1,c2,i1,i2,e1,e2];with_reducible rfl)))
  (refine Ends.mk (by simp) (rs:=?_) (ks:=?_) hres hrts ?_ ?_ ?_;rotate_left 2;(focus (simp only [Ze,Zg,seval,if_true,if_false,reduceCtorEq,Nat.reduceEqDiff];with_reducible rfl));(focus simp);focus (first|with_reducible rfl|(simp only [Zv];done)))
 ·rw [decide_eq_false k1] at e1
  rw [if_neg k1]
  by_cases k2:0 < c
  ·rw [decide_eq_true k2] at e2
   rw [if_pos k2]
   repeat' (first|with_reducible (first|refine Q1 ?_|refine Q2 ?_|refine Q3 ?_|refine Q4 ?_|refine Q5 ?_|refine Q6 ?_|refine Q7 ?_|refine Q8 ?_|refine Q9 ?_|refine Qa ?_|refine Qb ?_|refine Qc ?_|refine Qd ?_|refine Qe ?_|refine Qf ?_)|((with_reducible refine Qo ?_ ?_);focus rfl)|((with_reducible first|refine QT 8 (l:=?_) ?_ ?_|refine QF 8 (l:=?_) ?_ ?_);rotate_left 1;focus (simp only [Zu,Nat.reduceSub,Nat.reduceBEq];with_reducible rfl))|((with_reducible first|refine QS (cfg_ok 28) TCa3 (s':=?_) ?_ ?_|refine QC (b:=?_) ?_ ?_);rotate_left 1;focus ((with_reducible refine QW ?_);simp only [Zg,seval,if_true,if_false,reduceCtorEq,Nat.reduceEqDiff,TCa3,c1,c2,i1,i2,e1,e2];with_reducible rfl)))
   (refine Ends.mk (by simp) (rs:=?_) (ks:=?_) hres hrts ?_ ?_ ?_;rotate_left 2;(focus (simp only [Ze,Zg,seval,if_true,if_false,reduceCtorEq,Nat.reduceEqDiff];with_reducible rfl));(focus simp);focus (first|with_reducible rfl|(simp only [Zv];done)))
  ·rw [decide_eq_false k2] at e2
   rw [if_neg k2]
   repeat' (first|with_reducible (first|refine Q1 ?_|refine Q2 ?_|refine Q3 ?_|refine Q4 ?_|refine Q5 ?_|refine Q6 ?_|refine Q7 ?_|refine Q8 ?_|refine Q9 ?_|refine Qa ?_|refine Qb ?_|refine Qc ?_|refine Qd ?_|refine Qe ?_|refine Qf ?_)|((with_reducible refine Qo ?_ ?_);focus rfl)|((with_reducible first|refine QT 8 (l:=?_) ?_ ?_|refine QF 8 (l:=?_) ?_ ?_);rotate_left 1;focus (simp only [Zu,Nat.reduceSub,Nat.reduceBEq];with_reducible rfl))|((with_reducible first|refine QS (cfg_ok 28) TCa3 (s':=?_) ?_ ?_|refine QC (b:=?_) ?_ ?_);rotate_left 1;focus ((with_reducible refine QW ?_);simp only [Zg,seval,if_true,if_false,reduceCtorEq,Nat.reduceEqDiff,TCa3,c1,c2,i1,i2,e1,e2];with_reducible rfl)))
   (refine Ends.mk (by simp) (rs:=?_) (ks:=?_) hres hrts ?_ ?_ ?_;rotate_left 2;(focus (simp only [Ze,Zg,seval,if_true,if_false,reduceCtorEq,Nat.reduceEqDiff];with_reducible rfl));(focus simp);focus (first|with_reducible rfl|(simp only [Zv];done)))
theorem a_RootOn (f:List (List Int)) (h:forB f = true) (hs:sumLen f + 1 ≤ 8) (hl:LevP (rootOn f)):AFn Try.prog 17 [eLL f] (· = [.own 1 ((canon (rootOn f)).map eI) true,.val (.int 0)]):=by
 have hfl:=for_short h
 have hfs:=(forB_spec h).1
 have hi:=a_impl_IsForest f (by omega) (by omega)
 have hn:=a_nodesIn f
 have hnb:nodesB f = sumLen f:=nodesB_eq f (by omega)
 have hr:=AFn.valT (a_rootOn f (small_for h) (by omega))
 have hrl:(rootOn f).length ≤ 8:=by rw [rootOn_len];omega
 have hc:=a_canonical (rootOn f) hl hrl
 rw [h] at hi
 rw [hnb] at hn
 have i1:(((sumLen f:Nat):Int) ≥ 8) = False:=eq_false (by omega)
 simp only [eL,eLL] at hi hn hr hc ⊢
 refine AFn.of_runs (cfg_ok 15) Try.func17 rfl rfl rfl (by simp only [List.length_cons,List.length_nil];decide) ?_
 have hres:Try.f17.results.toList = [.tmp 2,.tmp 3]:=rfl
 have hrts:Try.f17.resultTypes.toList = [24,2]:=rfl
 simp only [argRegs,argAV1,eL,eI,eLL,eB,Nat.zero_add,Nat.reduceAdd]
 intro M
 refine RunK.of ?_
 repeat' (first|with_reducible (first|refine Q1 ?_|refine Q2 ?_|refine Q3 ?_|refine Q4 ?_|refine Q5 ?_|refine Q6 ?_|refine Q7 ?_|refine Q8 ?_|refine Q9 ?_|refine Qa ?_|refine Qb ?_|refine Qc ?_|refine Qd ?_|refine Qe ?_|refine Qf ?_)|((with_reducible refine Qo ?_ ?_);focus rfl)|((with_reducible first|refine QT 4 (l:=?_) ?_ ?_|refine QF 4 (l:=?_) ?_ ?_);rotate_left 1;focus (simp only [Zu,Nat.reduceSub,Nat.reduceBEq];with_reducible rfl))|((with_reducible first|refine QS (cfg_ok 15) ((((Tab.none.at' 15 hi).at' 50 hn).at' 51 hr).at' 43 hc) (s':=?_) ?_ ?_|refine QC (b:=?_) ?_ ?_);rotate_left 1;focus ((with_reducible refine QW ?_);simp only [Zg,seval,if_true,if_false,reduceCtorEq,Nat.reduceEqDiff,i1];with_reducible rfl)))
 (refine Ends.mk (by simp) (rs:=?_) (ks:=?_) hres hrts ?_ ?_ ?_;rotate_left 2;(focus (simp only [Ze,Zg,seval,if_true,if_false,reduceCtorEq,Nat.reduceEqDiff];with_reducible rfl));(focus simp);focus (first|with_reducible rfl|(simp only [Zv];done)))
theorem a_IndexOf (t:List Int) (h:lev8 t = true):AFn Try.prog 18 [eL t] (· = [.val (.int (posT (canon t))),.val (.int 0)]):=by
 have hl:=a_impl_IsLevels t
 rw [h] at hl
 have h8:=lev8_len h
 have hcl:=canon_len (lev8_lev h)
 obtain ⟨p1,p2,p3,p4⟩:=pos_at (canT_canon h) (d:=t.length) (by omega) h8
 have hto:=AFn.val1 (a_treesTo t.length h8)
 have hlen:(allTo t.length).length ≤ 200:=allTo_le h8
 have hix:=a_indexIn (allTo t.length) (canon t) (posT (canon t)) (by omega) p1 p2 p3 p4
 have hc:=AFn.valT (a_canonical t (lev8_lev h) h8)
 have hlm:(t.map eI).length = t.length:=List.length_map _
 have hw:=w64_eq (n:=(posT (canon t):Int)) (by omega)
 simp only [eL,eLL,eI] at hl hto hix hc ⊢
 refine AFn.of_runs (cfg_ok 13) Try.func18 rfl rfl rfl (by simp only [List.length_cons,List.length_nil];decide) ?_
 have hres:Try.f18.results.toList = [.tmp 2,.tmp 3]:=rfl
 have hrts:Try.f18.resultTypes.toList = [2,2]:=rfl
 simp only [argRegs,argAV1,eL,eI,eLL,eB,Nat.zero_add,Nat.reduceAdd]
 intro M
 refine RunK.of ?_
 repeat' (first|with_reducible (first|refine Q1 ?_|refine Q2 ?_|refine Q3 ?_|refine Q4 ?_|refine Q5 ?_|refine Q6 ?_|refine Q7 ?_|refine Q8 ?_|refine Q9 ?_|refine Qa ?_|refine Qb ?_|refine Qc ?_|refine Qd ?_|refine Qe ?_|refine Qf ?_)|((with_reducible refine Qo ?_ ?_);focus rfl)|((with_reducible first|refine QT 4 (l:=?_) ?_ ?_|refine QF 4 (l:=?_) ?_ ?_);rotate_left 1;focus (simp only [Zu,Nat.reduceSub,Nat.reduceBEq];with_reducible rfl))|((with_reducible first|refine QS (cfg_ok 13) ((((Tab.none.at' 9 hl).at' 53 hto).at' 43 hc).at' 52 hix) (s':=?_) ?_ ?_|refine QC (b:=?_) ?_ ?_);rotate_left 1;focus ((with_reducible refine QW ?_);simp only [Zg,seval,if_true,if_false,reduceCtorEq,Nat.reduceEqDiff,hlm,hw];with_reducible rfl)))
 (refine Ends.mk (by simp) (rs:=?_) (ks:=?_) hres hrts ?_ ?_ ?_;rotate_left 2;(focus (simp only [Ze,Zg,seval,if_true,if_false,reduceCtorEq,Nat.reduceEqDiff];with_reducible rfl));(focus simp);focus (first|with_reducible rfl|(simp only [Zv];done)))
theorem a_TreeAt2 (i:Nat) (hi:i < (allTo 8).length):AFn Try.prog 19 [eI i] (· = [.val (.sl 1 ((allTo 8)[i].map eI)),.val (.int 0)]):=by
 have hl:=allTo_len
 have hin:=a_impl_inRange i 0 199
 have e:inR i 0 199 = true:=by unfold inR;simp;omega
 rw [e] at hin
 have hto:AFn Try.prog 53 [[.int 8]] (· = [.val (.sl 1 ((allTo 8).map eL))]):=AFn.val1 (a_treesTo 8 (by decide))
 have hg:((allTo 8).map eL)[i]? = some [.sl 1 ((allTo 8)[i].map eI)]:=by rw [map_get hi];rfl
 have hm:((allTo 8).map eL).length = 200:=by rw [List.length_map,hl]
 have i1:((i:Int) < 200) = True:=eq_true (by omega)
 have i2:((0:Int) ≤ (i:Int)) = True:=eq_true (by omega)
 obtain ⟨Z,hZ⟩:∃ Z,Z = (allTo 8).map eL:=⟨_,rfl⟩
 obtain ⟨t,ht⟩:∃ t,t = (allTo 8)[i]:=⟨_,rfl⟩
 rw [← hZ] at hto hg hm
 rw [← ht] at hg ⊢
 simp only [eI] at hin
 refine AFn.of_runs (cfg_ok 11) Try.func19 rfl rfl rfl (by simp only [List.length_cons,List.length_nil];decide) ?_
 have hres:Try.f19.results.toList = [.tmp 2,.tmp 3]:=rfl
 have hrts:Try.f19.resultTypes.toList = [24,2]:=rfl
 simp only [argRegs,argAV1,eL,eI,eLL,eB,Nat.zero_add,Nat.reduceAdd]
 intro M
 refine RunK.of ?_
 repeat' (first|with_reducible (first|refine Q1 ?_|refine Q2 ?_|refine Q3 ?_|refine Q4 ?_|refine Q5 ?_|refine Q6 ?_|refine Q7 ?_|refine Q8 ?_|refine Q9 ?_|refine Qa ?_|refine Qb ?_|refine Qc ?_|refine Qd ?_|refine Qe ?_|refine Qf ?_)|((with_reducible refine Qo ?_ ?_);focus rfl)|((with_reducible first|refine QT 4 (l:=?_) ?_ ?_|refine QF 4 (l:=?_) ?_ ?_);rotate_left 1;focus (simp only [Zu,Nat.reduceSub,Nat.reduceBEq];with_reducible rfl))|((with_reducible first|refine QS (cfg_ok 11) ((Tab.none.at' 54 hin).at' 53 hto) (s':=?_) ?_ ?_|refine QC (b:=?_) ?_ ?_);rotate_left 1;focus ((with_reducible refine QW ?_);simp only [Zg,seval,if_true,if_false,reduceCtorEq,Nat.reduceEqDiff,hg,hm,i1,i2,Int.toNat_natCast];with_reducible rfl)))
 (refine Ends.mk (by simp) (rs:=?_) (ks:=?_) hres hrts ?_ ?_ ?_;rotate_left 2;(focus (simp only [Ze,Zg,seval,if_true,if_false,reduceCtorEq,Nat.reduceEqDiff];with_reducible rfl));(focus simp);focus (first|with_reducible rfl|(simp only [Zv];done)))
theorem a_DensityOf (t:List Int) (h:lev8 t = true):AFn Try.prog 23 [eL t] (· = [.val (.int (densF 9 t)),.val (.int 0)]):=by
 have hl:=a_impl_IsLevels t
 rw [h] at hl
 have hc:AFn Try.prog 58 [eL t] (· = [.val (.int (densF 9 t))]) :=
  AFn.of_v (enters_of Try.func58 rfl rfl) (fun _ _ => rdV_int.2 ⟨rfl,densF_in 9 t (by have:=lev8_len h;omega)⟩) (fun w A vs h' => by
   obtain ⟨v,rfl,hr⟩:=tab_one h'
   have:=lev8_len h
   exact c_impl_density 9 v t w hr (lev8_lev h) (by omega) (by omega))
 simp only [eL] at hl hc ⊢
 refine AFn.of_runs (cfg_ok 9) Try.func23 rfl rfl rfl (by simp only [List.length_cons,List.length_nil];decide) ?_
 have hres:Try.f23.results.toList = [.tmp 2,.tmp 3]:=rfl
 have hrts:Try.f23.resultTypes.toList = [2,2]:=rfl
 simp only [argRegs,argAV1,eL,eI,eLL,eB,Nat.zero_add,Nat.reduceAdd]
 intro M
 refine RunK.of ?_
 repeat' (first|with_reducible (first|refine Q1 ?_|refine Q2 ?_|refine Q3 ?_|refine Q4 ?_|refine Q5 ?_|refine Q6 ?_|refine Q7 ?_|refine Q8 ?_|refine Q9 ?_|refine Qa ?_|refine Qb ?_|refine Qc ?_|refine Qd ?_|refine Qe ?_|refine Qf ?_)|((with_reducible refine Qo ?_ ?_);focus rfl)|((with_reducible first|refine QT 4 (l:=?_) ?_ ?_|refine QF 4 (l:=?_) ?_ ?_);rotate_left 1;focus (simp only [Zu,Nat.reduceSub,Nat.reduceBEq];with_reducible rfl))|((with_reducible first|refine QS (cfg_ok 9) ((Tab.none.at' 9 hl).at' 58 hc) (s':=?_) ?_ ?_|refine QC (b:=?_) ?_ ?_);rotate_left 1;focus ((with_reducible refine QW ?_);simp only [Zg,seval,if_true,if_false,reduceCtorEq,Nat.reduceEqDiff];with_reducible rfl)))
 (refine Ends.mk (by simp) (rs:=?_) (ks:=?_) hres hrts ?_ ?_ ?_;rotate_left 2;(focus (simp only [Ze,Zg,seval,if_true,if_false,reduceCtorEq,Nat.reduceEqDiff];with_reducible rfl));(focus simp);focus (first|with_reducible rfl|(simp only [Zv];done)))
end Go.Proofs.Ytedgfkpfhonlpaa

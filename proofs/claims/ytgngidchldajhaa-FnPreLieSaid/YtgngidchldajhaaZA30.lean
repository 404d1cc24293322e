/- Lemmas (30). -/
import Derived.Test.YtgngidchldajhaaZA7
import Derived.Test.YtgngidchldajhaaZA8
import Derived.Test.YtgngidchldajhaaZA10
import Derived.Test.YtgngidchldajhaaZA11
import Derived.Test.YtgngidchldajhaaZA13
import Derived.Test.YtgngidchldajhaaZA27
set_option linter.unusedSimpArgs false
set_option linter.unusedVariables false
namespace Go.Proofs.Ytgngidchldajhaa
open Go.RowKit
def nxtP (m:Nat):List Nat→Option (List Nat)
 | [] => none
 | d :: p => if d + 1 = m then (nxtP m p).map (0 :: ·) else some ((d + 1) :: p)
theorem flat_getC {α β:Type} (enc:α→List β) (k:Nat) (hk:∀ x,(enc x).length = k) (hp:0 < k):∀ (l:List α) (t:Nat),(l.flatMap enc)[t]? = (l[t / k]?).bind fun x => (enc x)[t % k]?
 | [],t => by simp
 | x :: l,t => by
  rw [List.flatMap_cons]
  by_cases h:t < k
  ·rw [List.getElem?_append_left (by rw [hk];exact h),Nat.div_eq_of_lt h,Nat.mod_eq_of_lt h];rfl
  ·rw [List.getElem?_append_right (by rw [hk];omega),hk,flat_getC enc k hk hp l (t - k)]
   have e1:t / k = (t - k) / k + 1:=by rw [Nat.div_eq_sub_div hp (by omega)]
   have e2:t % k = (t - k) % k:=Nat.mod_eq_sub_mod (by omega)
   rw [e1,e2,List.getElem?_cons_succ]
theorem plcO_get (m k:Nat) (hm:0 < m) (t:Nat):(plcO m (k + 1))[t]? = ((plcO m k)[t / m]?).map fun p => (t % m) :: p:=by
 show ((plcO m k).flatMap fun p => (List.range m).map fun d => d :: p)[t]? = _
 rw [flat_getC (fun p => (List.range m).map fun d => d :: p) m (fun x => by simp) hm]
 have hlt:=Nat.mod_lt t hm
 cases (plcO m k)[t / m]? with
 | none => rfl
 | some p =>
  show ((List.range m).map fun d => d :: p)[t % m]? = _
  rw [List.getElem?_map,List.getElem?_range hlt];rfl
theorem nxtP_at {m:Nat} (hm:0 < m):∀ (k t:Nat) (p:List Nat),(plcO m k)[t]? = some p→nxtP m p = (plcO m k)[t + 1]?
 | 0,t,p,h => by
  cases t with
  | zero =>
   have:p = []:=by simpa [plcO] using h.symm
   subst this;rfl
  | succ t => simp [plcO] at h
 | k + 1,t,p,h => by
  rw [plcO_get m k hm] at h
  obtain ⟨q,hq,rfl⟩:=Option.map_eq_some_iff.1 h
  have ih:=nxtP_at hm k (t / m) q hq
  have hlt:=Nat.mod_lt t hm
  have hdm:=Nat.div_add_mod t m
  rw [plcO_get m k hm]
  unfold nxtP
  by_cases e:t % m + 1 = m
  ·rw [if_pos e,ih]
   have e3:t + 1 = m * (t / m + 1):=by rw [Nat.mul_add,Nat.mul_one];omega
   have e1:(t + 1) / m = t / m + 1:=by rw [e3];exact Nat.mul_div_cancel_left _ hm
   have e2:(t + 1) % m = 0:=by rw [e3];exact Nat.mul_mod_right _ _
   rw [e1,e2]
  ·rw [if_neg e]
   have e4:t + 1 = (t % m + 1) + m * (t / m):=by omega
   have e1:(t + 1) / m = t / m:=by rw [e4,Nat.add_mul_div_left _ _ hm,Nat.div_eq_of_lt (by omega)];omega
   have e2:(t + 1) % m = t % m + 1:=by rw [e4,Nat.add_mul_mod_self_left,Nat.mod_eq_of_lt (by omega)]
   rw [e1,e2,hq];rfl
theorem nxtP_zero {m:Nat}:∀ (c:Nat) (p:List Nat),c ≤ p.length→(∀ i,i < c→p.getD i 0 + 1 = m)→nxtP m p = (nxtP m (p.drop c)).map (List.replicate c 0 ++ ·)
 | 0,p,_,_ => by
  rw [List.drop_zero,List.replicate_zero]
  cases nxtP m p <;> rfl
 | c + 1,[],h,_ => by simp at h
 | c + 1,d :: p,h,hd => by
  have h0:d + 1 = m:=hd 0 (by omega)
  have ih:=nxtP_zero c p (by simpa using h) (fun i hi => by have:=hd (i + 1) (by omega);simpa using this)
  show (if d + 1 = m then (nxtP m p).map (0 :: ·) else some ((d + 1) :: p)) = _
  rw [if_pos h0,ih,List.drop_succ_cons,Option.map_map]
  congr 1
theorem nxtP_done {m:Nat} {p:List Nat} (h:∀ i,i < p.length→p.getD i 0 + 1 = m):nxtP m p = none:=by
 rw [nxtP_zero p.length p (Nat.le_refl _) h,List.drop_length];rfl
theorem nxtP_some {m c:Nat} {p:List Nat} (hc:c < p.length) (h:∀ i,i < c→p.getD i 0 + 1 = m) (hn:p.getD c 0 + 1 ≠ m):nxtP m p = some ((List.replicate c 0 ++ p.drop c).set c (p.getD c 0 + 1)):=by
 rw [nxtP_zero c p (by omega) h]
 have e:p.drop c = p[c] :: p.drop (c + 1):=List.drop_eq_getElem_cons hc
 have e2:p.getD c 0 = p[c]:=by rw [List.getD_eq_getElem?_getD,List.getElem?_eq_getElem hc];rfl
 rw [e2] at hn ⊢
 rw [e]
 show Option.map _ (if p[c] + 1 = m then _ else some ((p[c] + 1) :: p.drop (c + 1))) = _
 rw [if_neg hn]
 show some (List.replicate c 0 ++ (p[c] + 1) :: p.drop (c + 1)) = _
 rw [List.set_append_right _ _ (by simp),List.length_replicate,Nat.sub_self,List.set_cons_zero]
theorem rep_set {c:Nat} {p:List Nat} (hc:c < p.length):(List.replicate c 0 ++ p.drop c).set c 0 = List.replicate (c + 1) 0 ++ p.drop (c + 1):=by
 rw [List.drop_eq_getElem_cons hc,List.set_append_right _ _ (by simp),List.length_replicate,Nat.sub_self,List.set_cons_zero,List.replicate_succ',List.append_assoc];rfl
theorem plcO_len (m k:Nat):(plcO m k).length = m ^ k:=by rw [← (plc_perm m k).length_eq,plcX_len]
theorem plcO_mem {m k:Nat} {p:List Nat} (h:p ∈ plcO m k):p.length = k∧∀ n ∈ p,n < m:=plcX_mem ((plc_perm m k).mem_iff.2 h)
theorem plcO_zero {m:Nat} (hm:0 < m):∀ k,(plcO m k)[0]? = some (List.replicate k 0)
 | 0 => rfl
 | k + 1 => by rw [plcO_get m k hm,Nat.zero_div,plcO_zero hm k,Nat.zero_mod];rfl
end Go.Proofs.Ytgngidchldajhaa
namespace Go.Proofs.Ytgngidchldajhaa
open Go.RowKit
def mixTo (u:List Int) (f:List (List Int)) (ps:List Nat) (i k:Nat):List Int:=(List.range k).flatMap fun k => if Nat.beq (ps.getD k 0) i = true then (f.getD k []).map (· + (u.getD i 0 + 1)) else []
theorem mixTo_succ (u:List Int) (f:List (List Int)) (ps:List Nat) (i k:Nat):mixTo u f ps i (k + 1) = mixTo u f ps i k ++ (if Nat.beq (ps.getD k 0) i = true then (f.getD k []).map (· + (u.getD i 0 + 1)) else []):=by
 unfold mixTo
 rw [List.range_succ,List.flatMap_append];simp
def mixN (u:List Int) (f:List (List Int)) (ps:List Nat) (n:Nat):List Int:=(List.range n).flatMap (mixAt u f ps)
theorem mixN_succ (u:List Int) (f:List (List Int)) (ps:List Nat) (n:Nat):mixN u f ps (n + 1) = mixN u f ps n ++ mixAt u f ps n:=by
 unfold mixN
 rw [List.range_succ,List.flatMap_append];simp
theorem mixTo_len (u:List Int) (f:List (List Int)) (ps:List Nat) (i:Nat):∀ k,k ≤ f.length→(mixTo u f ps i k).length ≤ sumLen (f.take k)
 | 0,_ => Nat.zero_le _
 | k + 1,hk => by
  have h:=mixTo_len u f ps i k (by omega)
  have e:f.getD k [] = f[k]:=by rw [List.getD_eq_getElem?_getD,List.getElem?_eq_getElem (by omega)];rfl
  rw [mixTo_succ,List.length_append,List.take_succ_eq_append_getElem (by omega),sumLen_append,e]
  have:sumLen [f[k]] = f[k].length:=by simp [sumLen]
  split
  ·rw [List.length_map];omega
  ·simp;omega
theorem mixN_len (u:List Int) (f:List (List Int)) (ps:List Nat):∀ n,(mixN u f ps n).length ≤ n * (1 + sumLen f)
 | 0 => Nat.zero_le _
 | n + 1 => by
  have h:=mixN_len u f ps n
  have h2:=mixTo_len u f ps n f.length (Nat.le_refl _)
  rw [List.take_length] at h2
  have e:mixAt u f ps n = u.getD n 0 :: mixTo u f ps n f.length:=rfl
  rw [mixN_succ,List.length_append,e,List.length_cons,Nat.succ_mul]
  omega
theorem getD_ltI {l:List Int} {i:Nat} (h:i < l.length):l.getD i 0 = l[i]:=by rw [List.getD_eq_getElem?_getD,List.getElem?_eq_getElem h];rfl
set_option maxRecDepth 20000 in
set_option maxHeartbeats 16000000 in
theorem a_l04Mixed (u:List Int) (f:List (List Int)) (ps:List Nat) (hul:u.length ≤ 8) (hfl:f.length ≤ 8) (hs:sumLen f ≤ 8) (hpl:ps.length = f.length) (hub:∀ x ∈ u,-100 ≤ x∧x ≤ 100) (hfb:∀ v ∈ f,∀ x ∈ v,-100 ≤ x∧x ≤ 100) (hpb:∀ n ∈ ps,n ≤ 100)
  (hlev:LevP (mixL u f ps)):AFn Try.prog 60 [eL u,eLL f,eL (ps.map fun (n:Nat) => (n:Int))] (· = [.own 1 ((canon (mixL u f ps)).map eI) true]):=by
 have hum:(u.map eI).length = u.length:=List.length_map _
 have hfm:(f.map eL).length = f.length:=List.length_map _
 obtain ⟨pl,hpd⟩:∃ pl,pl = ps.map fun (n:Nat) => (n:Int):=⟨_,rfl⟩
 have hpm:(pl.map eI).length = f.length:=by rw [List.length_map,hpd,List.length_map,hpl]
 have hpg:∀ k,k < f.length→(pl.map eI)[k]? = some [.int ((ps.getD k 0:Nat):Int)]:=fun k hk => by
  rw [hpd,List.getElem?_map,List.getElem?_map,List.getElem?_eq_getElem (by omega),List.getD_eq_getElem?_getD,List.getElem?_eq_getElem (by omega)];rfl
 have hca:=AFn.valT (a_l03CanonB (mixL u f ps) hlev (by
  have:=mixN_len u f ps u.length
  have h2:u.length * (1 + sumLen f) ≤ 8 * 9:=Nat.mul_le_mul hul (by omega)
  show (mixN u f ps u.length).length ≤ 1000
  omega))
 have hca:=a_l03CanonB (mixL u f ps) hlev (by
  have:=mixN_len u f ps u.length
  have h2:u.length * (1 + sumLen f) ≤ 8 * 9:=Nat.mul_le_mul hul (by omega)
  show (mixN u f ps u.length).length ≤ 1000
  omega)
 have hMl:∀ n,n ≤ 8→(mixN u f ps n).length ≤ 72:=fun n hn => by
  have:=mixN_len u f ps n
  have h2:n * (1 + sumLen f) ≤ 8 * 9:=Nat.mul_le_mul hn (by omega)
  omega
 obtain ⟨Z,hZ⟩:∃ Z,Z = mixL u f ps:=⟨_,rfl⟩
 have hZ2:mixN u f ps u.length = Z:=by rw [hZ];rfl
 rw [← hZ] at hca ⊢
 rw [← hpd]
 simp only [eL] at hca
 refine AFn.of_runs (cfg_ok 66) Try.func60 rfl rfl rfl (by simp only [List.length_cons,List.length_nil];decide) ?_
 have hres:Try.f60.results.toList = [.tmp 6]:=rfl
 have hrts:Try.f60.resultTypes.toList = [27]:=rfl
 simp only [argRegs,argAV1,eL,eI,eLL,eB,Nat.zero_add,Nat.reduceAdd,eLL,eL]
 intro M
 refine RunK.of ?_
 repeat' (first|with_reducible (first|refine Q1 ?_|refine Q2 ?_|refine Q3 ?_|refine Q4 ?_|refine Q5 ?_|refine Q6 ?_|refine Q7 ?_|refine Q8 ?_|refine Q9 ?_|refine Qa ?_|refine Qb ?_|refine Qc ?_|refine Qd ?_|refine Qe ?_|refine Qf ?_)|((with_reducible refine Qo ?_ ?_);focus rfl)|((with_reducible first|refine QT 11 (l:=?_) ?_ ?_|refine QF 11 (l:=?_) ?_ ?_);rotate_left 1;focus (simp only [Zu,Nat.reduceSub,Nat.reduceBEq];with_reducible rfl))|((with_reducible first|refine QS (cfg_ok 66) Tab.none (s':=?_) ?_ ?_|refine QC (b:=?_) ?_ ?_);rotate_left 1;focus ((with_reducible refine QW ?_);simp only [Zg,seval,if_true,if_false,reduceCtorEq,Nat.reduceEqDiff];with_reducible rfl))|((with_reducible refine QD (cfg_ok 66) Tab.none mixed_ok (tr:=?_) (s':=?_) ?_ ?_ ?_);rotate_left 2;(focus ((with_reducible refine QW ?_);simp only [Zg,Zd,seval,if_true,if_false,reduceCtorEq,Nat.reduceEqDiff];with_reducible rfl));focus ((with_reducible refine QK ?_);simp only [Zk];kernel_rfl)))
 refine RunK.loop (β:=Nat) (γ:=Unit) (fun n => ⟨[(0,.c (.val (.sl 1 (u.map eI)))),(1,.c (.val (.sl 1 (f.map eL)))),(2,.c (.val (.sl 1 (pl.map eI)))),(7,.c (.own 7 (mixN u f ps n).length)),(8,.c (.val (.int n)))],[(7,.row 1 ((mixN u f ps n).map eI) true)]⟩) (fun n => n ≤ u.length) (fun n => u.length - n)
  (fun _ => ⟨[(7,.c (.own 7 Z.length))],[(7,.row 1 (Z.map eI) true)]⟩) (fun _ => True) 0 (Nat.zero_le _) ?_ ?_ ?_
 ·(repeat' (first|with_reducible refine Qn|((with_reducible refine Qr ?_ ?_);focus (first|with_reducible rfl|(simp only [Zz,Nat.reduceBEq,show mixN u f ps 0 = [] from rfl,List.map_nil,List.length_nil,Int.natCast_zero];done)|rfl))|((with_reducible refine Qj (o':=?_) ?_ ?_ ?_);rotate_left 1;focus rfl)|((with_reducible refine Qw ?_ ?_);(focus (first|with_reducible rfl|(simp only [Zv,show mixN u f ps 0 = [] from rfl,List.map_nil,List.length_nil,Int.natCast_zero];done)));focus (first|exact id|exact (fun h => nomatch h)|exact (fun _ => rfl)))))
 ·intro n hn
  have hn:n ≤ u.length:=hn
  have hw:=w64_succ (n:=n) (by omega)
  have hM:=hMl n (by omega)
  by_cases h:n < u.length
  ·have i1:((n:Int) < (u.length:Int)) = True:=eq_true (by omega)
   have i2:((0:Int) ≤ (n:Int)) = True:=eq_true (by omega)
   have hgu:(u.map eI)[n]? = some [.int (u.getD n 0)]:=by rw [List.getElem?_map,List.getElem?_eq_getElem h,getD_ltI h];rfl
   have hxb:=hub _ (List.getElem_mem h)
   rw [← getD_ltI h] at hxb
   have hst:mixN u f ps (n + 1) = mixN u f ps n ++ (u.getD n 0 :: mixTo u f ps n f.length):=mixN_succ u f ps n
   have hMm:((mixN u f ps n).map eI).length = (mixN u f ps n).length:=List.length_map _
   have q1:=big_le (n:=(mixN u f ps n).length + 1) (by omega)
   have q2:=big_mul (n:=(mixN u f ps n).length + 1) (c:=8) (by omega) (by omega)
   obtain ⟨X,hX⟩:∃ X,X = mixN u f ps n:=⟨_,rfl⟩
   rw [← hX] at hM hst hMm q1 q2 ⊢
   obtain ⟨x,hx⟩:∃ x,x = u.getD n 0:=⟨_,rfl⟩
   rw [← hx] at hgu hxb hst
   repeat' (first|with_reducible (first|refine Q1 ?_|refine Q2 ?_|refine Q3 ?_|refine Q4 ?_|refine Q5 ?_|refine Q6 ?_|refine Q7 ?_|refine Q8 ?_|refine Q9 ?_|refine Qa ?_|refine Qb ?_|refine Qc ?_|refine Qd ?_|refine Qe ?_|refine Qf ?_)|((with_reducible refine Qo ?_ ?_);focus rfl)|((with_reducible first|refine QT 11 (l:=?_) ?_ ?_|refine QF 11 (l:=?_) ?_ ?_);rotate_left 1;focus (simp only [Zu,Nat.reduceSub,Nat.reduceBEq];with_reducible rfl))|((with_reducible first|refine QS (cfg_ok 66) Tab.none (s':=?_) ?_ ?_|refine QC (b:=?_) ?_ ?_);rotate_left 1;focus ((with_reducible refine QW ?_);simp only [Zg,seval,if_true,if_false,reduceCtorEq,Nat.reduceEqDiff,i1,i2,hum,hgu,hMm,q1,q2,Int.toNat_natCast];with_reducible rfl))|((with_reducible refine QD (cfg_ok 66) Tab.none mixed_ok (tr:=?_) (s':=?_) ?_ ?_ ?_);rotate_left 2;(focus ((with_reducible refine QW ?_);simp only [Zg,Zd,seval,if_true,if_false,reduceCtorEq,Nat.reduceEqDiff,i1,i2,hum,hgu,hMm,q1,q2,Int.toNat_natCast];with_reducible rfl));focus ((with_reducible refine QK ?_);simp only [Zk];kernel_rfl)))
   have hTl:∀ k,k ≤ f.length→(mixTo u f ps n k).length ≤ 8:=fun k hk => by
    have h1:=mixTo_len u f ps n k hk
    have h2:=sumLen_append (f.take k) (f.drop k)
    rw [List.take_append_drop] at h2
    omega
   refine RunK.loop (β:=Nat) (γ:=Unit) (fun k => ⟨[(0,.c (.val (.sl 1 (u.map eI)))),(1,.c (.val (.sl 1 (f.map eL)))),(2,.c (.val (.sl 1 (pl.map eI)))),(7,.c (.own 7 (X ++ (x :: mixTo u f ps n k)).length)),(8,.c (.val (.int n))),(9,.c (.val (.int k)))],[(7,.row 1 ((X ++ (x :: mixTo u f ps n k)).map eI) true)]⟩) (fun k => k ≤ f.length) (fun k => f.length - k)
    (fun _ => ⟨[(0,.c (.val (.sl 1 (u.map eI)))),(1,.c (.val (.sl 1 (f.map eL)))),(2,.c (.val (.sl 1 (pl.map eI)))),(7,.c (.own 7 (X ++ (x :: mixTo u f ps n f.length)).length)),(8,.c (.val (.int n)))],[(7,.row 1 ((X ++ (x :: mixTo u f ps n f.length)).map eI) true)]⟩) (fun _ => True) 0 (Nat.zero_le _) ?_ ?_ ?_
   ·(repeat' (first|with_reducible refine Qn|((with_reducible refine Qr ?_ ?_);focus (first|with_reducible rfl|(simp only [Zz,Nat.reduceBEq,show mixTo u f ps n 0 = [] from rfl,List.map_append,List.map_cons,List.map_nil,List.length_append,List.length_cons,List.length_nil,eI,Int.natCast_zero];done)|rfl))|((with_reducible refine Qj (o':=?_) ?_ ?_ ?_);rotate_left 1;focus rfl)|((with_reducible refine Qw ?_ ?_);(focus (first|with_reducible rfl|(simp only [Zv,show mixTo u f ps n 0 = [] from rfl,List.map_append,List.map_cons,List.map_nil,List.length_append,List.length_cons,List.length_nil,eI,Int.natCast_zero];done)));focus (first|exact id|exact (fun h => nomatch h)|exact (fun _ => rfl)))))
   ·intro k hk
    have hk:k ≤ f.length:=hk
    have hwk:=w64_succ (n:=k) (by omega)
    by_cases hkf:k < f.length
    ·have l1:((k:Int) < (f.length:Int)) = True:=eq_true (by omega)
     have l2:((0:Int) ≤ (k:Int)) = True:=eq_true (by omega)
     have hTk:=hTl k hk
     have hgp:=hpg k hkf
     have hms:=mixTo_succ u f ps n k
     have ev:f.getD k [] = f[k]:=by rw [List.getD_eq_getElem?_getD,List.getElem?_eq_getElem hkf];rfl
     have hvb:=hfb _ (List.getElem_mem hkf)
     have hvl:=sumLen_mem (List.getElem_mem hkf)
     obtain ⟨v,hv⟩:∃ v,v = f[k]:=⟨_,rfl⟩
     have hgf:(f.map eL)[k]? = some [.sl 1 (v.map eI)]:=by rw [List.getElem?_map,List.getElem?_eq_getElem hkf,hv];rfl
     rw [ev,← hv] at hms
     rw [← hv] at hvb hvl
     have hvm:(v.map eI).length = v.length:=List.length_map _
     obtain ⟨p,hp⟩:∃ p,p = ps.getD k 0:=⟨_,rfl⟩
     rw [← hp] at hgp hms
     obtain ⟨Y,hY⟩:∃ Y,Y = X ++ (x :: mixTo u f ps n k):=⟨_,rfl⟩
     have hYl:Y.length ≤ 81:=by rw [hY,List.length_append,List.length_cons];omega
     have hY2:X ++ (x :: mixTo u f ps n (k + 1)) = Y ++ (if Nat.beq p n = true then v.map (· + (x + 1)) else []):=by
      rw [hms,hY,List.append_assoc,List.cons_append,hx]
     rw [← hY]
     by_cases hpn:p = n
     ·have hbq:Nat.beq p n = true:=by rw [hpn];exact Nat.beq_refl n
      rw [if_pos hbq] at hY2
      have be:(((p:Nat):Int) == (n:Int)) = true:=by rw [hpn];simp
      repeat' (first|with_reducible (first|refine Q1 ?_|refine Q2 ?_|refine Q3 ?_|refine Q4 ?_|refine Q5 ?_|refine Q6 ?_|refine Q7 ?_|refine Q8 ?_|refine Q9 ?_|refine Qa ?_|refine Qb ?_|refine Qc ?_|refine Qd ?_|refine Qe ?_|refine Qf ?_)|((with_reducible refine Qo ?_ ?_);focus rfl)|((with_reducible first|refine QT 11 (l:=?_) ?_ ?_|refine QF 11 (l:=?_) ?_ ?_);rotate_left 1;focus (simp only [Zu,Nat.reduceSub,Nat.reduceBEq];with_reducible rfl))|((with_reducible first|refine QS (cfg_ok 66) Tab.none (s':=?_) ?_ ?_|refine QC (b:=?_) ?_ ?_);rotate_left 1;focus ((with_reducible refine QW ?_);simp only [Zg,seval,if_true,if_false,reduceCtorEq,Nat.reduceEqDiff,l1,hfm];with_reducible rfl))|((with_reducible refine QD (cfg_ok 66) Tab.none mixed_ok (tr:=?_) (s':=?_) ?_ ?_ ?_);rotate_left 2;(focus ((with_reducible refine QW ?_);simp only [Zg,Zd,seval,if_true,if_false,reduceCtorEq,Nat.reduceEqDiff,l1,hfm];with_reducible rfl));focus ((with_reducible refine QK ?_);simp only [Zk];kernel_rfl)))
      refine RunK.loop (β:=Nat) (γ:=Unit) (fun j => ⟨[(0,.c (.val (.sl 1 (u.map eI)))),(1,.c (.val (.sl 1 (f.map eL)))),(2,.c (.val (.sl 1 (pl.map eI)))),(7,.c (.own 7 (Y ++ (v.take j).map (· + (x + 1))).length)),(8,.c (.val (.int n))),(9,.c (.val (.int k))),(10,.c (.val (.int j)))],[(7,.row 1 ((Y ++ (v.take j).map (· + (x + 1))).map eI) true)]⟩) (fun j => j ≤ v.length) (fun j => v.length - j)
       (fun _ => ⟨[(0,.c (.val (.sl 1 (u.map eI)))),(1,.c (.val (.sl 1 (f.map eL)))),(2,.c (.val (.sl 1 (pl.map eI)))),(7,.c (.own 7 (Y ++ v.map (· + (x + 1))).length)),(8,.c (.val (.int n))),(9,.c (.val (.int k)))],[(7,.row 1 ((Y ++ v.map (· + (x + 1))).map eI) true)]⟩) (fun _ => True) 0 (Nat.zero_le _) ?_ ?_ ?_
      ·(repeat' (first|with_reducible refine Qn|((with_reducible refine Qr ?_ ?_);focus (first|with_reducible rfl|(simp only [Zz,Nat.reduceBEq,List.take_zero,List.map_nil,List.append_nil,Int.natCast_zero];done)|rfl))|((with_reducible refine Qj (o':=?_) ?_ ?_ ?_);rotate_left 1;focus rfl)|((with_reducible refine Qw ?_ ?_);(focus (first|with_reducible rfl|(simp only [Zv,List.take_zero,List.map_nil,List.append_nil,Int.natCast_zero];done)));focus (first|exact id|exact (fun h => nomatch h)|exact (fun _ => rfl)))))
      ·intro j hj
       have hj:j ≤ v.length:=hj
       have hwj:=w64_succ (n:=j) (by omega)
       by_cases hjv:j < v.length
       ·have m1:((j:Int) < (v.length:Int)) = True:=eq_true (by omega)
        have m2:((0:Int) ≤ (j:Int)) = True:=eq_true (by omega)
        have hgv:(v.map eI)[j]? = some [.int (v.getD j 0)]:=by rw [List.getElem?_map,List.getElem?_eq_getElem hjv,getD_ltI hjv];rfl
        have hyb:=hvb _ (List.getElem_mem hjv)
        have htk:(v.take (j + 1)).map (· + (x + 1)) = (v.take j).map (· + (x + 1)) ++ [v.getD j 0 + (x + 1)]:=by
         rw [List.take_succ_eq_append_getElem hjv,List.map_append,getD_ltI hjv];rfl
        rw [← getD_ltI hjv] at hyb
        obtain ⟨y,hy⟩:∃ y,y = v.getD j 0:=⟨_,rfl⟩
        rw [← hy] at hgv hyb htk
        obtain ⟨W,hW⟩:∃ W,W = Y ++ (v.take j).map (· + (x + 1)):=⟨_,rfl⟩
        have hWl:W.length ≤ 100:=by rw [hW,List.length_append,List.length_map,List.length_take];omega
        have hW2:Y ++ (v.take (j + 1)).map (· + (x + 1)) = W ++ [y + (x + 1)]:=by rw [htk,hW,List.append_assoc]
        have hWm:(W.map eI).length = W.length:=List.length_map _
        have w1:w64 (x + 1) = x + 1:=w64_eq (by omega)
        have w2:w64 (x + 1 + y) = y + (x + 1):=by rw [w64_eq (by omega)];omega
        have q1:=big_le (n:=W.length + 1) (by omega)
        have q2:=big_mul (n:=W.length + 1) (c:=8) (by omega) (by omega)
        rw [← hW]
        repeat' (first|with_reducible (first|refine Q1 ?_|refine Q2 ?_|refine Q3 ?_|refine Q4 ?_|refine Q5 ?_|refine Q6 ?_|refine Q7 ?_|refine Q8 ?_|refine Q9 ?_|refine Qa ?_|refine Qb ?_|refine Qc ?_|refine Qd ?_|refine Qe ?_|refine Qf ?_)|((with_reducible refine Qo ?_ ?_);focus rfl)|((with_reducible first|refine QT 11 (l:=?_) ?_ ?_|refine QF 11 (l:=?_) ?_ ?_);rotate_left 1;focus (simp only [Zu,Nat.reduceSub,Nat.reduceBEq];with_reducible rfl))|((with_reducible first|refine QS (cfg_ok 66) Tab.none (s':=?_) ?_ ?_|refine QC (b:=?_) ?_ ?_);rotate_left 1;focus ((with_reducible refine QW ?_);simp only [Zg,seval,if_true,if_false,reduceCtorEq,Nat.reduceEqDiff,l1,l2,i1,i2,m1,m2,be,hgp,hgf,hgu,hgv,hum,hfm,hpm,hvm,hWm,w1,w2,q1,q2,hwj,Int.toNat_natCast];with_reducible rfl))|((with_reducible refine QD (cfg_ok 66) Tab.none mixed_ok (tr:=?_) (s':=?_) ?_ ?_ ?_);rotate_left 2;(focus ((with_reducible refine QW ?_);simp only [Zg,Zd,seval,if_true,if_false,reduceCtorEq,Nat.reduceEqDiff,l1,l2,i1,i2,m1,m2,be,hgp,hgf,hgu,hgv,hum,hfm,hpm,hvm,hWm,w1,w2,q1,q2,hwj,Int.toNat_natCast];with_reducible rfl));focus ((with_reducible refine QK ?_);simp only [Zk];kernel_rfl)))
        refine roundK.on (j + 1) ⟨hjv,by omega⟩ ?_
        rw [hW2]
        (repeat' (first|with_reducible refine Qn|((with_reducible refine Qr ?_ ?_);focus (first|with_reducible rfl|(simp only [Zz,Nat.reduceBEq,List.map_append,List.map_cons,List.map_nil,List.length_append,List.length_singleton,eI];done)|rfl))|((with_reducible refine Qj (o':=?_) ?_ ?_ ?_);rotate_left 1;focus rfl)|((with_reducible refine Qw ?_ ?_);(focus (first|with_reducible rfl|(simp only [Zv,List.map_append,List.map_cons,List.map_nil,List.length_append,List.length_singleton,eI];done)));focus (first|exact id|exact (fun h => nomatch h)|exact (fun _ => rfl)))))
       ·have m1:((j:Int) < (v.length:Int)) = False:=eq_false (by omega)
        obtain rfl:j = v.length:=by omega
        rw [List.take_length]
        repeat' (first|with_reducible (first|refine Q1 ?_|refine Q2 ?_|refine Q3 ?_|refine Q4 ?_|refine Q5 ?_|refine Q6 ?_|refine Q7 ?_|refine Q8 ?_|refine Q9 ?_|refine Qa ?_|refine Qb ?_|refine Qc ?_|refine Qd ?_|refine Qe ?_|refine Qf ?_)|((with_reducible refine Qo ?_ ?_);focus rfl)|((with_reducible first|refine QT 11 (l:=?_) ?_ ?_|refine QF 11 (l:=?_) ?_ ?_);rotate_left 1;focus (simp only [Zu,Nat.reduceSub,Nat.reduceBEq];with_reducible rfl))|((with_reducible first|refine QS (cfg_ok 66) Tab.none (s':=?_) ?_ ?_|refine QC (b:=?_) ?_ ?_);rotate_left 1;focus ((with_reducible refine QW ?_);simp only [Zg,seval,if_true,if_false,reduceCtorEq,Nat.reduceEqDiff,l1,l2,m1,hgf,hfm,hvm,Int.toNat_natCast];with_reducible rfl))|((with_reducible refine QD (cfg_ok 66) Tab.none mixed_ok (tr:=?_) (s':=?_) ?_ ?_ ?_);rotate_left 2;(focus ((with_reducible refine QW ?_);simp only [Zg,Zd,seval,if_true,if_false,reduceCtorEq,Nat.reduceEqDiff,l1,l2,m1,hgf,hfm,hvm,Int.toNat_natCast];with_reducible rfl));focus ((with_reducible refine QK ?_);simp only [Zk];kernel_rfl)))
        refine roundK.out () trivial ?_
        (repeat' (first|with_reducible refine Qn|((with_reducible refine Qr ?_ ?_);focus (first|with_reducible rfl|(simp only [Zz,Nat.reduceBEq];done)|rfl))|((with_reducible refine Qj (o':=?_) ?_ ?_ ?_);rotate_left 1;focus rfl)|((with_reducible refine Qw ?_ ?_);(focus (first|with_reducible rfl|(simp only [Zv];done)));focus (first|exact id|exact (fun h => nomatch h)|exact (fun _ => rfl)))))
      ·intro _ _
       repeat' (first|with_reducible (first|refine Q1 ?_|refine Q2 ?_|refine Q3 ?_|refine Q4 ?_|refine Q5 ?_|refine Q6 ?_|refine Q7 ?_|refine Q8 ?_|refine Q9 ?_|refine Qa ?_|refine Qb ?_|refine Qc ?_|refine Qd ?_|refine Qe ?_|refine Qf ?_)|((with_reducible refine Qo ?_ ?_);focus rfl)|((with_reducible first|refine QT 11 (l:=?_) ?_ ?_|refine QF 11 (l:=?_) ?_ ?_);rotate_left 1;focus (simp only [Zu,Nat.reduceSub,Nat.reduceBEq];with_reducible rfl))|((with_reducible first|refine QS (cfg_ok 66) Tab.none (s':=?_) ?_ ?_|refine QC (b:=?_) ?_ ?_);rotate_left 1;focus ((with_reducible refine QW ?_);simp only [Zg,seval,if_true,if_false,reduceCtorEq,Nat.reduceEqDiff,hwk];with_reducible rfl))|((with_reducible refine QD (cfg_ok 66) Tab.none mixed_ok (tr:=?_) (s':=?_) ?_ ?_ ?_);rotate_left 2;(focus ((with_reducible refine QW ?_);simp only [Zg,Zd,seval,if_true,if_false,reduceCtorEq,Nat.reduceEqDiff,hwk];with_reducible rfl));focus ((with_reducible refine QK ?_);simp only [Zk];kernel_rfl)))
       refine roundK.on (k + 1) ⟨hkf,by omega⟩ ?_
       rw [hY2]
       (repeat' (first|with_reducible refine Qn|((with_reducible refine Qr ?_ ?_);focus (first|with_reducible rfl|(simp only [Zz,Nat.reduceBEq];done)|rfl))|((with_reducible refine Qj (o':=?_) ?_ ?_ ?_);rotate_left 1;focus rfl)|((with_reducible refine Qw ?_ ?_);(focus (first|with_reducible rfl|(simp only [Zv];done)));focus (first|exact id|exact (fun h => nomatch h)|exact (fun _ => rfl)))))
     ·have hbq:¬ Nat.beq p n = true:=fun e => hpn (Nat.eq_of_beq_eq_true e)
      rw [if_neg hbq,List.append_nil] at hY2
      have be:(((p:Nat):Int) == (n:Int)) = false:=by simp only [beq_eq_false_iff_ne,ne_eq];omega
      repeat' (first|with_reducible (first|refine Q1 ?_|refine Q2 ?_|refine Q3 ?_|refine Q4 ?_|refine Q5 ?_|refine Q6 ?_|refine Q7 ?_|refine Q8 ?_|refine Q9 ?_|refine Qa ?_|refine Qb ?_|refine Qc ?_|refine Qd ?_|refine Qe ?_|refine Qf ?_)|((with_reducible refine Qo ?_ ?_);focus rfl)|((with_reducible first|refine QT 11 (l:=?_) ?_ ?_|refine QF 11 (l:=?_) ?_ ?_);rotate_left 1;focus (simp only [Zu,Nat.reduceSub,Nat.reduceBEq];with_reducible rfl))|((with_reducible first|refine QS (cfg_ok 66) Tab.none (s':=?_) ?_ ?_|refine QC (b:=?_) ?_ ?_);rotate_left 1;focus ((with_reducible refine QW ?_);simp only [Zg,seval,if_true,if_false,reduceCtorEq,Nat.reduceEqDiff,l1,hfm];with_reducible rfl))|((with_reducible refine QD (cfg_ok 66) Tab.none mixed_ok (tr:=?_) (s':=?_) ?_ ?_ ?_);rotate_left 2;(focus ((with_reducible refine QW ?_);simp only [Zg,Zd,seval,if_true,if_false,reduceCtorEq,Nat.reduceEqDiff,l1,hfm];with_reducible rfl));focus ((with_reducible refine QK ?_);simp only [Zk];kernel_rfl)))
      refine RunK.loop (β:=Unit) (γ:=Unit) (fun _ => ⟨[(0,.c (.val (.sl 1 (u.map eI)))),(1,.c (.val (.sl 1 (f.map eL)))),(2,.c (.val (.sl 1 (pl.map eI)))),(7,.c (.own 7 Y.length)),(8,.c (.val (.int n))),(9,.c (.val (.int k))),(10,.c (.val (.int 0)))],[(7,.row 1 (Y.map eI) true)]⟩) (fun _ => True) (fun _ => 0)
       (fun _ => ⟨[(0,.c (.val (.sl 1 (u.map eI)))),(1,.c (.val (.sl 1 (f.map eL)))),(2,.c (.val (.sl 1 (pl.map eI)))),(7,.c (.own 7 Y.length)),(8,.c (.val (.int n))),(9,.c (.val (.int k)))],[(7,.row 1 (Y.map eI) true)]⟩) (fun _ => True) () trivial ?_ ?_ ?_
      ·(repeat' (first|with_reducible refine Qn|((with_reducible refine Qr ?_ ?_);focus (first|with_reducible rfl|(simp only [Zz,Nat.reduceBEq];done)|rfl))|((with_reducible refine Qj (o':=?_) ?_ ?_ ?_);rotate_left 1;focus rfl)|((with_reducible refine Qw ?_ ?_);(focus (first|with_reducible rfl|(simp only [Zv];done)));focus (first|exact id|exact (fun h => nomatch h)|exact (fun _ => rfl)))))
      ·intro _ _
       by_cases hv0:0 < v.length
       ·have m1:((0:Int) < (v.length:Int)) = True:=eq_true (by omega)
        repeat' (first|with_reducible (first|refine Q1 ?_|refine Q2 ?_|refine Q3 ?_|refine Q4 ?_|refine Q5 ?_|refine Q6 ?_|refine Q7 ?_|refine Q8 ?_|refine Q9 ?_|refine Qa ?_|refine Qb ?_|refine Qc ?_|refine Qd ?_|refine Qe ?_|refine Qf ?_)|((with_reducible refine Qo ?_ ?_);focus rfl)|((with_reducible first|refine QT 11 (l:=?_) ?_ ?_|refine QF 11 (l:=?_) ?_ ?_);rotate_left 1;focus (simp only [Zu,Nat.reduceSub,Nat.reduceBEq];with_reducible rfl))|((with_reducible first|refine QS (cfg_ok 66) Tab.none (s':=?_) ?_ ?_|refine QC (b:=?_) ?_ ?_);rotate_left 1;focus ((with_reducible refine QW ?_);simp only [Zg,seval,if_true,if_false,reduceCtorEq,Nat.reduceEqDiff,l1,l2,m1,be,hgp,hgf,hfm,hpm,hvm,Int.toNat_natCast];with_reducible rfl))|((with_reducible refine QD (cfg_ok 66) Tab.none mixed_ok (tr:=?_) (s':=?_) ?_ ?_ ?_);rotate_left 2;(focus ((with_reducible refine QW ?_);simp only [Zg,Zd,seval,if_true,if_false,reduceCtorEq,Nat.reduceEqDiff,l1,l2,m1,be,hgp,hgf,hfm,hpm,hvm,Int.toNat_natCast];with_reducible rfl));focus ((with_reducible refine QK ?_);simp only [Zk];kernel_rfl)))
        refine roundK.out () trivial ?_
        (repeat' (first|with_reducible refine Qn|((with_reducible refine Qr ?_ ?_);focus (first|with_reducible rfl|(simp only [Zz,Nat.reduceBEq];done)|rfl))|((with_reducible refine Qj (o':=?_) ?_ ?_ ?_);rotate_left 1;focus rfl)|((with_reducible refine Qw ?_ ?_);(focus (first|with_reducible rfl|(simp only [Zv];done)));focus (first|exact id|exact (fun h => nomatch h)|exact (fun _ => rfl)))))
       ·have m1:((0:Int) < (v.length:Int)) = False:=eq_false (by omega)
        repeat' (first|with_reducible (first|refine Q1 ?_|refine Q2 ?_|refine Q3 ?_|refine Q4 ?_|refine Q5 ?_|refine Q6 ?_|refine Q7 ?_|refine Q8 ?_|refine Q9 ?_|refine Qa ?_|refine Qb ?_|refine Qc ?_|refine Qd ?_|refine Qe ?_|refine Qf ?_)|((with_reducible refine Qo ?_ ?_);focus rfl)|((with_reducible first|refine QT 11 (l:=?_) ?_ ?_|refine QF 11 (l:=?_) ?_ ?_);rotate_left 1;focus (simp only [Zu,Nat.reduceSub,Nat.reduceBEq];with_reducible rfl))|((with_reducible first|refine QS (cfg_ok 66) Tab.none (s':=?_) ?_ ?_|refine QC (b:=?_) ?_ ?_);rotate_left 1;focus ((with_reducible refine QW ?_);simp only [Zg,seval,if_true,if_false,reduceCtorEq,Nat.reduceEqDiff,l1,l2,m1,hgf,hfm,hvm,Int.toNat_natCast];with_reducible rfl))|((with_reducible refine QD (cfg_ok 66) Tab.none mixed_ok (tr:=?_) (s':=?_) ?_ ?_ ?_);rotate_left 2;(focus ((with_reducible refine QW ?_);simp only [Zg,Zd,seval,if_true,if_false,reduceCtorEq,Nat.reduceEqDiff,l1,l2,m1,hgf,hfm,hvm,Int.toNat_natCast];with_reducible rfl));focus ((with_reducible refine QK ?_);simp only [Zk];kernel_rfl)))
        refine roundK.out () trivial ?_
        (repeat' (first|with_reducible refine Qn|((with_reducible refine Qr ?_ ?_);focus (first|with_reducible rfl|(simp only [Zz,Nat.reduceBEq];done)|rfl))|((with_reducible refine Qj (o':=?_) ?_ ?_ ?_);rotate_left 1;focus rfl)|((with_reducible refine Qw ?_ ?_);(focus (first|with_reducible rfl|(simp only [Zv];done)));focus (first|exact id|exact (fun h => nomatch h)|exact (fun _ => rfl)))))
      ·intro _ _
       repeat' (first|with_reducible (first|refine Q1 ?_|refine Q2 ?_|refine Q3 ?_|refine Q4 ?_|refine Q5 ?_|refine Q6 ?_|refine Q7 ?_|refine Q8 ?_|refine Q9 ?_|refine Qa ?_|refine Qb ?_|refine Qc ?_|refine Qd ?_|refine Qe ?_|refine Qf ?_)|((with_reducible refine Qo ?_ ?_);focus rfl)|((with_reducible first|refine QT 11 (l:=?_) ?_ ?_|refine QF 11 (l:=?_) ?_ ?_);rotate_left 1;focus (simp only [Zu,Nat.reduceSub,Nat.reduceBEq];with_reducible rfl))|((with_reducible first|refine QS (cfg_ok 66) Tab.none (s':=?_) ?_ ?_|refine QC (b:=?_) ?_ ?_);rotate_left 1;focus ((with_reducible refine QW ?_);simp only [Zg,seval,if_true,if_false,reduceCtorEq,Nat.reduceEqDiff,hwk];with_reducible rfl))|((with_reducible refine QD (cfg_ok 66) Tab.none mixed_ok (tr:=?_) (s':=?_) ?_ ?_ ?_);rotate_left 2;(focus ((with_reducible refine QW ?_);simp only [Zg,Zd,seval,if_true,if_false,reduceCtorEq,Nat.reduceEqDiff,hwk];with_reducible rfl));focus ((with_reducible refine QK ?_);simp only [Zk];kernel_rfl)))
       refine roundK.on (k + 1) ⟨hkf,by omega⟩ ?_
       rw [hY2]
       (repeat' (first|with_reducible refine Qn|((with_reducible refine Qr ?_ ?_);focus (first|with_reducible rfl|(simp only [Zz,Nat.reduceBEq];done)|rfl))|((with_reducible refine Qj (o':=?_) ?_ ?_ ?_);rotate_left 1;focus rfl)|((with_reducible refine Qw ?_ ?_);(focus (first|with_reducible rfl|(simp only [Zv];done)));focus (first|exact id|exact (fun h => nomatch h)|exact (fun _ => rfl)))))
    ·have l1:((k:Int) < (f.length:Int)) = False:=eq_false (by omega)
     obtain rfl:k = f.length:=by omega
     repeat' (first|with_reducible (first|refine Q1 ?_|refine Q2 ?_|refine Q3 ?_|refine Q4 ?_|refine Q5 ?_|refine Q6 ?_|refine Q7 ?_|refine Q8 ?_|refine Q9 ?_|refine Qa ?_|refine Qb ?_|refine Qc ?_|refine Qd ?_|refine Qe ?_|refine Qf ?_)|((with_reducible refine Qo ?_ ?_);focus rfl)|((with_reducible first|refine QT 11 (l:=?_) ?_ ?_|refine QF 11 (l:=?_) ?_ ?_);rotate_left 1;focus (simp only [Zu,Nat.reduceSub,Nat.reduceBEq];with_reducible rfl))|((with_reducible first|refine QS (cfg_ok 66) Tab.none (s':=?_) ?_ ?_|refine QC (b:=?_) ?_ ?_);rotate_left 1;focus ((with_reducible refine QW ?_);simp only [Zg,seval,if_true,if_false,reduceCtorEq,Nat.reduceEqDiff,l1,hfm];with_reducible rfl))|((with_reducible refine QD (cfg_ok 66) Tab.none mixed_ok (tr:=?_) (s':=?_) ?_ ?_ ?_);rotate_left 2;(focus ((with_reducible refine QW ?_);simp only [Zg,Zd,seval,if_true,if_false,reduceCtorEq,Nat.reduceEqDiff,l1,hfm];with_reducible rfl));focus ((with_reducible refine QK ?_);simp only [Zk];kernel_rfl)))
     refine roundK.out () trivial ?_
     (repeat' (first|with_reducible refine Qn|((with_reducible refine Qr ?_ ?_);focus (first|with_reducible rfl|(simp only [Zz,Nat.reduceBEq];done)|rfl))|((with_reducible refine Qj (o':=?_) ?_ ?_ ?_);rotate_left 1;focus rfl)|((with_reducible refine Qw ?_ ?_);(focus (first|with_reducible rfl|(simp only [Zv];done)));focus (first|exact id|exact (fun h => nomatch h)|exact (fun _ => rfl)))))
   ·intro _ _
    repeat' (first|with_reducible (first|refine Q1 ?_|refine Q2 ?_|refine Q3 ?_|refine Q4 ?_|refine Q5 ?_|refine Q6 ?_|refine Q7 ?_|refine Q8 ?_|refine Q9 ?_|refine Qa ?_|refine Qb ?_|refine Qc ?_|refine Qd ?_|refine Qe ?_|refine Qf ?_)|((with_reducible refine Qo ?_ ?_);focus rfl)|((with_reducible first|refine QT 11 (l:=?_) ?_ ?_|refine QF 11 (l:=?_) ?_ ?_);rotate_left 1;focus (simp only [Zu,Nat.reduceSub,Nat.reduceBEq];with_reducible rfl))|((with_reducible first|refine QS (cfg_ok 66) Tab.none (s':=?_) ?_ ?_|refine QC (b:=?_) ?_ ?_);rotate_left 1;focus ((with_reducible refine QW ?_);simp only [Zg,seval,if_true,if_false,reduceCtorEq,Nat.reduceEqDiff,hw];with_reducible rfl))|((with_reducible refine QD (cfg_ok 66) Tab.none mixed_ok (tr:=?_) (s':=?_) ?_ ?_ ?_);rotate_left 2;(focus ((with_reducible refine QW ?_);simp only [Zg,Zd,seval,if_true,if_false,reduceCtorEq,Nat.reduceEqDiff,hw];with_reducible rfl));focus ((with_reducible refine QK ?_);simp only [Zk];kernel_rfl)))
    refine roundK.on (n + 1) ⟨h,by omega⟩ ?_
    rw [hst]
    (repeat' (first|with_reducible refine Qn|((with_reducible refine Qr ?_ ?_);focus (first|with_reducible rfl|(simp only [Zz,Nat.reduceBEq];done)|rfl))|((with_reducible refine Qj (o':=?_) ?_ ?_ ?_);rotate_left 1;focus rfl)|((with_reducible refine Qw ?_ ?_);(focus (first|with_reducible rfl|(simp only [Zv];done)));focus (first|exact id|exact (fun h => nomatch h)|exact (fun _ => rfl)))))
  ·have i1:((n:Int) < (u.length:Int)) = False:=eq_false (by omega)
   obtain rfl:n = u.length:=by omega
   rw [hZ2]
   repeat' (first|with_reducible (first|refine Q1 ?_|refine Q2 ?_|refine Q3 ?_|refine Q4 ?_|refine Q5 ?_|refine Q6 ?_|refine Q7 ?_|refine Q8 ?_|refine Q9 ?_|refine Qa ?_|refine Qb ?_|refine Qc ?_|refine Qd ?_|refine Qe ?_|refine Qf ?_)|((with_reducible refine Qo ?_ ?_);focus rfl)|((with_reducible first|refine QT 11 (l:=?_) ?_ ?_|refine QF 11 (l:=?_) ?_ ?_);rotate_left 1;focus (simp only [Zu,Nat.reduceSub,Nat.reduceBEq];with_reducible rfl))|((with_reducible first|refine QS (cfg_ok 66) Tab.none (s':=?_) ?_ ?_|refine QC (b:=?_) ?_ ?_);rotate_left 1;focus ((with_reducible refine QW ?_);simp only [Zg,seval,if_true,if_false,reduceCtorEq,Nat.reduceEqDiff,i1,hum];with_reducible rfl))|((with_reducible refine QD (cfg_ok 66) Tab.none mixed_ok (tr:=?_) (s':=?_) ?_ ?_ ?_);rotate_left 2;(focus ((with_reducible refine QW ?_);simp only [Zg,Zd,seval,if_true,if_false,reduceCtorEq,Nat.reduceEqDiff,i1,hum];with_reducible rfl));focus ((with_reducible refine QK ?_);simp only [Zk];kernel_rfl)))
   refine roundK.out () trivial ?_
   (repeat' (first|with_reducible refine Qn|((with_reducible refine Qr ?_ ?_);focus (first|with_reducible rfl|(simp only [Zz,Nat.reduceBEq];done)|rfl))|((with_reducible refine Qj (o':=?_) ?_ ?_ ?_);rotate_left 1;focus rfl)|((with_reducible refine Qw ?_ ?_);(focus (first|with_reducible rfl|(simp only [Zv];done)));focus (first|exact id|exact (fun h => nomatch h)|exact (fun _ => rfl)))))
 ·intro _ _
  repeat' (first|with_reducible (first|refine Q1 ?_|refine Q2 ?_|refine Q3 ?_|refine Q4 ?_|refine Q5 ?_|refine Q6 ?_|refine Q7 ?_|refine Q8 ?_|refine Q9 ?_|refine Qa ?_|refine Qb ?_|refine Qc ?_|refine Qd ?_|refine Qe ?_|refine Qf ?_)|((with_reducible refine Qo ?_ ?_);focus rfl)|((with_reducible first|refine QT 11 (l:=?_) ?_ ?_|refine QF 11 (l:=?_) ?_ ?_);rotate_left 1;focus (simp only [Zu,Nat.reduceSub,Nat.reduceBEq];with_reducible rfl))|((with_reducible first|refine QS (cfg_ok 66) (Tab.none.at' 64 hca) (s':=?_) ?_ ?_|refine QC (b:=?_) ?_ ?_);rotate_left 1;focus ((with_reducible refine QW ?_);simp only [Zg,seval,if_true,if_false,reduceCtorEq,Nat.reduceEqDiff];with_reducible rfl))|((with_reducible refine QD (cfg_ok 66) (Tab.none.at' 64 hca) mixed_ok (tr:=?_) (s':=?_) ?_ ?_ ?_);rotate_left 2;(focus ((with_reducible refine QW ?_);simp only [Zg,Zd,seval,if_true,if_false,reduceCtorEq,Nat.reduceEqDiff];with_reducible rfl));focus ((with_reducible refine QK ?_);simp only [Zk];kernel_rfl)))
  (refine Ends.mk (by simp) (rs:=?_) (ks:=?_) hres hrts ?_ ?_ ?_;rotate_left 2;(focus (simp only [Ze,Zg,seval,if_true,if_false,reduceCtorEq,Nat.reduceEqDiff];with_reducible rfl));(focus simp);focus (first|with_reducible rfl|(simp only [Zv];done)))
end Go.Proofs.Ytgngidchldajhaa
namespace Go.Proofs.Ytgngidchldajhaa
open Go.RowKit
set_option maxHeartbeats 4000000 in
theorem a_l03Forest (f:List (List Int)) (hsz:sumLen f ≤ 1048576) (hln:f.length ≤ 1048576):AFn Try.prog 57 [eLL f] (· = [.val (.bool (forB f))]):=by
 have hn:nodesB f = sumLen f:=nodesB_eq f (by omega)
 refine AFn.of_runs (cfg_ok 35) Try.func57 rfl rfl rfl (by simp only [List.length_cons,List.length_nil];decide) ?_
 have hres:Try.f57.results.toList = [.tmp 2]:=rfl
 have hrts:Try.f57.resultTypes.toList = [4]:=rfl
 simp only [argRegs,argAV1,eL,eI,eLL,eB,Nat.zero_add,Nat.reduceAdd]
 intro M
 refine RunK.of ?_
 repeat' (first|with_reducible (first|refine Q1 ?_|refine Q2 ?_|refine Q3 ?_|refine Q4 ?_|refine Q5 ?_|refine Q6 ?_|refine Q7 ?_|refine Q8 ?_|refine Q9 ?_|refine Qa ?_|refine Qb ?_|refine Qc ?_|refine Qd ?_|refine Qe ?_|refine Qf ?_)|((with_reducible refine Qo ?_ ?_);focus rfl)|((with_reducible first|refine QT 4 (l:=?_) ?_ ?_|refine QF 4 (l:=?_) ?_ ?_);rotate_left 1;focus (simp only [Zu,Nat.reduceSub,Nat.reduceBEq];with_reducible rfl))|((with_reducible first|refine QS (cfg_ok 35) TForS (s':=?_) ?_ ?_|refine QC (b:=?_) ?_ ?_);rotate_left 1;focus ((with_reducible refine QW ?_);simp only [Zg,seval,if_true,if_false,reduceCtorEq,Nat.reduceEqDiff,TForS,eL];with_reducible rfl))|((with_reducible refine QD (cfg_ok 35) TForS mixed_ok (tr:=?_) (s':=?_) ?_ ?_ ?_);rotate_left 2;(focus ((with_reducible refine QW ?_);simp only [Zg,Zd,seval,if_true,if_false,reduceCtorEq,Nat.reduceEqDiff,TForS,eL];with_reducible rfl));focus ((with_reducible refine QK ?_);simp only [Zk];kernel_rfl)))
 refine RunK.loop (β:=Nat) (γ:=Unit) (fun i => ⟨[(0,.c (.val (.sl 1 (f.map eL)))),(3,.c (.val (.int i)))],[]⟩) (fun i => i ≤ f.length∧(List.range i).all (okT f) = true) (fun i => f.length - i)
  (fun _ => ⟨[(0,.c (.val (.sl 1 (f.map eL))))],[]⟩) (fun _ => (List.range f.length).all (okT f) = true) 0 ⟨Nat.zero_le _,rfl⟩ ?_ ?_ ?_
 ·(repeat' (first|with_reducible refine Qn|((with_reducible refine Qr ?_ ?_);focus (first|with_reducible rfl|(simp only [Zz,Nat.reduceBEq];done)|rfl))|((with_reducible refine Qj (o':=?_) ?_ ?_ ?_);rotate_left 1;focus rfl)|((with_reducible refine Qw ?_ ?_);(focus (first|with_reducible rfl|(simp only [Zv];done)));focus (first|exact id|exact (fun h => nomatch h)|exact (fun _ => rfl)))))
 ·rintro i ⟨hi,hall⟩
  have hw:=w64_succ (n:=i) (by omega)
  by_cases h:i < f.length
  ·have i1:((i:Int) < (f.length:Int)) = True:=eq_true (by omega)
   have i2:((0:Int) ≤ (i:Int)) = True:=eq_true (by omega)
   obtain ⟨t,ht⟩:∃ t,t = f[i]:=⟨_,rfl⟩
   have hg:(f.map eL)[i]? = some [.sl 1 (t.map eI)]:=by rw [map_get h,ht];rfl
   have hgd:f.getD i [] = t:=by rw [getD_at h,ht]
   have htl:(t.length ≤ 1048576) = True:=eq_true (Nat.le_trans (by rw [ht];exact sumLen_mem (List.getElem_mem h)) hsz)
   by_cases hc:canT t = true
   ·by_cases h0:i = 0
    ·have j1:((i:Int) > 0) = False:=eq_false (by omega)
     have hok:okT f i = true:=by unfold okT;rw [hgd,hc,h0];rfl
     repeat' (first|with_reducible (first|refine Q1 ?_|refine Q2 ?_|refine Q3 ?_|refine Q4 ?_|refine Q5 ?_|refine Q6 ?_|refine Q7 ?_|refine Q8 ?_|refine Q9 ?_|refine Qa ?_|refine Qb ?_|refine Qc ?_|refine Qd ?_|refine Qe ?_|refine Qf ?_)|((with_reducible refine Qo ?_ ?_);focus rfl)|((with_reducible first|refine QT 4 (l:=?_) ?_ ?_|refine QF 4 (l:=?_) ?_ ?_);rotate_left 1;focus (simp only [Zu,Nat.reduceSub,Nat.reduceBEq];with_reducible rfl))|((with_reducible first|refine QS (cfg_ok 35) TForS (s':=?_) ?_ ?_|refine QC (b:=?_) ?_ ?_);rotate_left 1;focus ((with_reducible refine QW ?_);simp only [Zg,seval,if_true,if_false,reduceCtorEq,Nat.reduceEqDiff,TForS,i1,i2,hg,hw,hc,j1,htl,Int.toNat_natCast,List.length_map];with_reducible rfl))|((with_reducible refine QD (cfg_ok 35) TForS mixed_ok (tr:=?_) (s':=?_) ?_ ?_ ?_);rotate_left 2;(focus ((with_reducible refine QW ?_);simp only [Zg,Zd,seval,if_true,if_false,reduceCtorEq,Nat.reduceEqDiff,TForS,i1,i2,hg,hw,hc,j1,htl,Int.toNat_natCast,List.length_map];with_reducible rfl));focus ((with_reducible refine QK ?_);simp only [Zk];kernel_rfl)))
     refine roundK.on (i + 1) ⟨⟨h,all_range_succ hall hok⟩,by omega⟩ ?_
     (repeat' (first|with_reducible refine Qn|((with_reducible refine Qr ?_ ?_);focus (first|with_reducible rfl|(simp only [Zz,Nat.reduceBEq];done)|rfl))|((with_reducible refine Qj (o':=?_) ?_ ?_ ?_);rotate_left 1;focus rfl)|((with_reducible refine Qw ?_ ?_);(focus (first|with_reducible rfl|(simp only [Zv];done)));focus (first|exact id|exact (fun h => nomatch h)|exact (fun _ => rfl)))))
    ·have j1:((i:Int) > 0) = True:=eq_true (by omega)
     have hw1:w64 ((i:Int) - 1) = ((i - 1:Nat):Int):=by rw [w64_eq (by omega)];omega
     have i3:((0:Int) ≤ ((i - 1:Nat):Int)) = True:=eq_true (by omega)
     have i4:(((i - 1:Nat):Int) < (f.length:Int)) = True:=eq_true (by omega)
     obtain ⟨s,hs⟩:∃ s,s = f[i - 1]:=⟨_,rfl⟩
     have hgs:(f.map eL)[i - 1]? = some [.sl 1 (s.map eI)]:=by rw [map_get (by omega),hs];rfl
     have hgds:f.getD (i - 1) [] = s:=by rw [getD_at (by omega),hs]
     have han:=cmpT_cmp.anti t s
     by_cases hk:cmpT t s < 0
     ·have hok:okT f i = false:=by unfold okT;rw [hgd,hgds,hc,decide_eq_false h0,decide_eq_false (by omega)];rfl
      have hB:forB f = false:=by unfold forB;rw [all_range_no h hok,Bool.and_false]
      have k1:decide (cmpT t s < 0) = true:=decide_eq_true hk
      rw [hB]
      repeat' (first|with_reducible (first|refine Q1 ?_|refine Q2 ?_|refine Q3 ?_|refine Q4 ?_|refine Q5 ?_|refine Q6 ?_|refine Q7 ?_|refine Q8 ?_|refine Q9 ?_|refine Qa ?_|refine Qb ?_|refine Qc ?_|refine Qd ?_|refine Qe ?_|refine Qf ?_)|((with_reducible refine Qo ?_ ?_);focus rfl)|((with_reducible first|refine QT 4 (l:=?_) ?_ ?_|refine QF 4 (l:=?_) ?_ ?_);rotate_left 1;focus (simp only [Zu,Nat.reduceSub,Nat.reduceBEq];with_reducible rfl))|((with_reducible first|refine QS (cfg_ok 35) TForS (s':=?_) ?_ ?_|refine QC (b:=?_) ?_ ?_);rotate_left 1;focus ((with_reducible refine QW ?_);simp only [Zg,seval,if_true,if_false,reduceCtorEq,Nat.reduceEqDiff,TForS,i1,i2,i3,i4,hg,hgs,hw,hw1,hc,j1,k1,htl,Int.toNat_natCast,List.length_map];with_reducible rfl))|((with_reducible refine QD (cfg_ok 35) TForS mixed_ok (tr:=?_) (s':=?_) ?_ ?_ ?_);rotate_left 2;(focus ((with_reducible refine QW ?_);simp only [Zg,Zd,seval,if_true,if_false,reduceCtorEq,Nat.reduceEqDiff,TForS,i1,i2,i3,i4,hg,hgs,hw,hw1,hc,j1,k1,htl,Int.toNat_natCast,List.length_map];with_reducible rfl));focus ((with_reducible refine QK ?_);simp only [Zk];kernel_rfl)))
      refine roundK.ret ?_
      repeat' (first|with_reducible (first|refine Q1 ?_|refine Q2 ?_|refine Q3 ?_|refine Q4 ?_|refine Q5 ?_|refine Q6 ?_|refine Q7 ?_|refine Q8 ?_|refine Q9 ?_|refine Qa ?_|refine Qb ?_|refine Qc ?_|refine Qd ?_|refine Qe ?_|refine Qf ?_)|((with_reducible refine Qo ?_ ?_);focus rfl)|((with_reducible first|refine QT 4 (l:=?_) ?_ ?_|refine QF 4 (l:=?_) ?_ ?_);rotate_left 1;focus (simp only [Zu,Nat.reduceSub,Nat.reduceBEq];with_reducible rfl))|((with_reducible first|refine QS (cfg_ok 35) TForS (s':=?_) ?_ ?_|refine QC (b:=?_) ?_ ?_);rotate_left 1;focus ((with_reducible refine QW ?_);simp only [Zg,seval,if_true,if_false,reduceCtorEq,Nat.reduceEqDiff,TForS];with_reducible rfl))|((with_reducible refine QD (cfg_ok 35) TForS mixed_ok (tr:=?_) (s':=?_) ?_ ?_ ?_);rotate_left 2;(focus ((with_reducible refine QW ?_);simp only [Zg,Zd,seval,if_true,if_false,reduceCtorEq,Nat.reduceEqDiff,TForS];with_reducible rfl));focus ((with_reducible refine QK ?_);simp only [Zk];kernel_rfl)))
      (refine Ends.mk (by simp) (rs:=?_) (ks:=?_) hres hrts ?_ ?_ ?_;rotate_left 2;(focus (simp only [Ze,Zg,seval,if_true,if_false,reduceCtorEq,Nat.reduceEqDiff];with_reducible rfl));(focus simp);focus (first|with_reducible rfl|(simp only [Zv];done)))
     ·have hok:okT f i = true:=by unfold okT;rw [hgd,hgds,hc,decide_eq_true (show cmpT s t ≤ 0 by omega),Bool.or_true];rfl
      have k1:decide (cmpT t s < 0) = false:=decide_eq_false hk
      repeat' (first|with_reducible (first|refine Q1 ?_|refine Q2 ?_|refine Q3 ?_|refine Q4 ?_|refine Q5 ?_|refine Q6 ?_|refine Q7 ?_|refine Q8 ?_|refine Q9 ?_|refine Qa ?_|refine Qb ?_|refine Qc ?_|refine Qd ?_|refine Qe ?_|refine Qf ?_)|((with_reducible refine Qo ?_ ?_);focus rfl)|((with_reducible first|refine QT 4 (l:=?_) ?_ ?_|refine QF 4 (l:=?_) ?_ ?_);rotate_left 1;focus (simp only [Zu,Nat.reduceSub,Nat.reduceBEq];with_reducible rfl))|((with_reducible first|refine QS (cfg_ok 35) TForS (s':=?_) ?_ ?_|refine QC (b:=?_) ?_ ?_);rotate_left 1;focus ((with_reducible refine QW ?_);simp only [Zg,seval,if_true,if_false,reduceCtorEq,Nat.reduceEqDiff,TForS,i1,i2,i3,i4,hg,hgs,hw,hw1,hc,j1,k1,htl,Int.toNat_natCast,List.length_map];with_reducible rfl))|((with_reducible refine QD (cfg_ok 35) TForS mixed_ok (tr:=?_) (s':=?_) ?_ ?_ ?_);rotate_left 2;(focus ((with_reducible refine QW ?_);simp only [Zg,Zd,seval,if_true,if_false,reduceCtorEq,Nat.reduceEqDiff,TForS,i1,i2,i3,i4,hg,hgs,hw,hw1,hc,j1,k1,htl,Int.toNat_natCast,List.length_map];with_reducible rfl));focus ((with_reducible refine QK ?_);simp only [Zk];kernel_rfl)))
      refine roundK.on (i + 1) ⟨⟨h,all_range_succ hall hok⟩,by omega⟩ ?_
      (repeat' (first|with_reducible refine Qn|((with_reducible refine Qr ?_ ?_);focus (first|with_reducible rfl|(simp only [Zz,Nat.reduceBEq];done)|rfl))|((with_reducible refine Qj (o':=?_) ?_ ?_ ?_);rotate_left 1;focus rfl)|((with_reducible refine Qw ?_ ?_);(focus (first|with_reducible rfl|(simp only [Zv];done)));focus (first|exact id|exact (fun h => nomatch h)|exact (fun _ => rfl)))))
   ·have hc:canT t = false:=by simpa using hc
    have hok:okT f i = false:=by unfold okT;rw [hgd,hc,Bool.false_and]
    have hB:forB f = false:=by unfold forB;rw [all_range_no h hok,Bool.and_false]
    rw [hB]
    repeat' (first|with_reducible (first|refine Q1 ?_|refine Q2 ?_|refine Q3 ?_|refine Q4 ?_|refine Q5 ?_|refine Q6 ?_|refine Q7 ?_|refine Q8 ?_|refine Q9 ?_|refine Qa ?_|refine Qb ?_|refine Qc ?_|refine Qd ?_|refine Qe ?_|refine Qf ?_)|((with_reducible refine Qo ?_ ?_);focus rfl)|((with_reducible first|refine QT 4 (l:=?_) ?_ ?_|refine QF 4 (l:=?_) ?_ ?_);rotate_left 1;focus (simp only [Zu,Nat.reduceSub,Nat.reduceBEq];with_reducible rfl))|((with_reducible first|refine QS (cfg_ok 35) TForS (s':=?_) ?_ ?_|refine QC (b:=?_) ?_ ?_);rotate_left 1;focus ((with_reducible refine QW ?_);simp only [Zg,seval,if_true,if_false,reduceCtorEq,Nat.reduceEqDiff,TForS,i1,i2,hg,hw,hc,htl,Int.toNat_natCast,List.length_map];with_reducible rfl))|((with_reducible refine QD (cfg_ok 35) TForS mixed_ok (tr:=?_) (s':=?_) ?_ ?_ ?_);rotate_left 2;(focus ((with_reducible refine QW ?_);simp only [Zg,Zd,seval,if_true,if_false,reduceCtorEq,Nat.reduceEqDiff,TForS,i1,i2,hg,hw,hc,htl,Int.toNat_natCast,List.length_map];with_reducible rfl));focus ((with_reducible refine QK ?_);simp only [Zk];kernel_rfl)))
    refine roundK.ret ?_
    repeat' (first|with_reducible (first|refine Q1 ?_|refine Q2 ?_|refine Q3 ?_|refine Q4 ?_|refine Q5 ?_|refine Q6 ?_|refine Q7 ?_|refine Q8 ?_|refine Q9 ?_|refine Qa ?_|refine Qb ?_|refine Qc ?_|refine Qd ?_|refine Qe ?_|refine Qf ?_)|((with_reducible refine Qo ?_ ?_);focus rfl)|((with_reducible first|refine QT 4 (l:=?_) ?_ ?_|refine QF 4 (l:=?_) ?_ ?_);rotate_left 1;focus (simp only [Zu,Nat.reduceSub,Nat.reduceBEq];with_reducible rfl))|((with_reducible first|refine QS (cfg_ok 35) TForS (s':=?_) ?_ ?_|refine QC (b:=?_) ?_ ?_);rotate_left 1;focus ((with_reducible refine QW ?_);simp only [Zg,seval,if_true,if_false,reduceCtorEq,Nat.reduceEqDiff,TForS];with_reducible rfl))|((with_reducible refine QD (cfg_ok 35) TForS mixed_ok (tr:=?_) (s':=?_) ?_ ?_ ?_);rotate_left 2;(focus ((with_reducible refine QW ?_);simp only [Zg,Zd,seval,if_true,if_false,reduceCtorEq,Nat.reduceEqDiff,TForS];with_reducible rfl));focus ((with_reducible refine QK ?_);simp only [Zk];kernel_rfl)))
    (refine Ends.mk (by simp) (rs:=?_) (ks:=?_) hres hrts ?_ ?_ ?_;rotate_left 2;(focus (simp only [Ze,Zg,seval,if_true,if_false,reduceCtorEq,Nat.reduceEqDiff];with_reducible rfl));(focus simp);focus (first|with_reducible rfl|(simp only [Zv];done)))
  ·have i1:((i:Int) < (f.length:Int)) = False:=eq_false (by omega)
   obtain rfl:i = f.length:=by omega
   repeat' (first|with_reducible (first|refine Q1 ?_|refine Q2 ?_|refine Q3 ?_|refine Q4 ?_|refine Q5 ?_|refine Q6 ?_|refine Q7 ?_|refine Q8 ?_|refine Q9 ?_|refine Qa ?_|refine Qb ?_|refine Qc ?_|refine Qd ?_|refine Qe ?_|refine Qf ?_)|((with_reducible refine Qo ?_ ?_);focus rfl)|((with_reducible first|refine QT 4 (l:=?_) ?_ ?_|refine QF 4 (l:=?_) ?_ ?_);rotate_left 1;focus (simp only [Zu,Nat.reduceSub,Nat.reduceBEq];with_reducible rfl))|((with_reducible first|refine QS (cfg_ok 35) TForS (s':=?_) ?_ ?_|refine QC (b:=?_) ?_ ?_);rotate_left 1;focus ((with_reducible refine QW ?_);simp only [Zg,seval,if_true,if_false,reduceCtorEq,Nat.reduceEqDiff,TForS,i1,List.length_map];with_reducible rfl))|((with_reducible refine QD (cfg_ok 35) TForS mixed_ok (tr:=?_) (s':=?_) ?_ ?_ ?_);rotate_left 2;(focus ((with_reducible refine QW ?_);simp only [Zg,Zd,seval,if_true,if_false,reduceCtorEq,Nat.reduceEqDiff,TForS,i1,List.length_map];with_reducible rfl));focus ((with_reducible refine QK ?_);simp only [Zk];kernel_rfl)))
   refine roundK.out () hall ?_
   (repeat' (first|with_reducible refine Qn|((with_reducible refine Qr ?_ ?_);focus (first|with_reducible rfl|(simp only [Zz,Nat.reduceBEq];done)|rfl))|((with_reducible refine Qj (o':=?_) ?_ ?_ ?_);rotate_left 1;focus rfl)|((with_reducible refine Qw ?_ ?_);(focus (first|with_reducible rfl|(simp only [Zv];done)));focus (first|exact id|exact (fun h => nomatch h)|exact (fun _ => rfl)))))
 ·rintro _ hall
  have hB:forB f = decide ((sumLen f:Int) ≤ 8):=by
   unfold forB;rw [hall,Bool.and_true]
   exact decide_eq_decide.2 (by omega)
  rw [hB]
  repeat' (first|with_reducible (first|refine Q1 ?_|refine Q2 ?_|refine Q3 ?_|refine Q4 ?_|refine Q5 ?_|refine Q6 ?_|refine Q7 ?_|refine Q8 ?_|refine Q9 ?_|refine Qa ?_|refine Qb ?_|refine Qc ?_|refine Qd ?_|refine Qe ?_|refine Qf ?_)|((with_reducible refine Qo ?_ ?_);focus rfl)|((with_reducible first|refine QT 4 (l:=?_) ?_ ?_|refine QF 4 (l:=?_) ?_ ?_);rotate_left 1;focus (simp only [Zu,Nat.reduceSub,Nat.reduceBEq];with_reducible rfl))|((with_reducible first|refine QS (cfg_ok 35) TForS (s':=?_) ?_ ?_|refine QC (b:=?_) ?_ ?_);rotate_left 1;focus ((with_reducible refine QW ?_);simp only [Zg,seval,if_true,if_false,reduceCtorEq,Nat.reduceEqDiff,TForS,hn,eL];with_reducible rfl))|((with_reducible refine QD (cfg_ok 35) TForS mixed_ok (tr:=?_) (s':=?_) ?_ ?_ ?_);rotate_left 2;(focus ((with_reducible refine QW ?_);simp only [Zg,Zd,seval,if_true,if_false,reduceCtorEq,Nat.reduceEqDiff,TForS,hn,eL];with_reducible rfl));focus ((with_reducible refine QK ?_);simp only [Zk];kernel_rfl)))
  (refine Ends.mk (by simp) (rs:=?_) (ks:=?_) hres hrts ?_ ?_ ?_;rotate_left 2;(focus (simp only [Ze,Zg,seval,if_true,if_false,reduceCtorEq,Nat.reduceEqDiff];with_reducible rfl));(focus simp);focus (first|with_reducible rfl|(simp only [Zv];done)))
end Go.Proofs.Ytgngidchldajhaa
namespace Go.Proofs.Ytgngidchldajhaa
open Go.RowKit
theorem gfX_siz {u:List Int} {f:List (List Int)} (F:GfF u f) (hu:lev8 u = true):sumLen (gfX (canon u) f [] f.length) ≤ 2048:=by
 have hcl:=canon_len (lev8_lev hu)
 have hp:(gfX (canon u) f [] f.length).Perm (gfT u f):=by
  have h1:=(sumOf_is (gfX (canon u) f [] f.length)).2
  have h2:=(sumOf_is (gfT u f)).2
  rw [F.c2] at h1
  exact h1.symm.trans h2
 have h3:(gfT u f).length = u.length ^ f.length:=by unfold gfT;rw [List.length_map,plcO_len]
 have h4:=F.pow
 have h5:=sumLen_le (gfX (canon u) f [] f.length) (fun t ht => F.siz t (hp.mem_iff.1 ht))
 rw [hp.length_eq] at h5
 omega
noncomputable def TGfI:Tab Try.prog :=
 (Tab.none.add 25 (tab1 codLL fun f => if sumLen f ≤ 1048576∧f.length ≤ 1048576 then some [.val (.bool (forB f))] else none) (tab1_ok fun f rs h => by split at h;cases h;rename_i hs;exact a_impl_IsForest f (by omega) (by omega);cases h)).add
  51 (tab1 codLL fun f => some [.val (.int (nodesB f))]) (tab1_ok fun f rs h => by cases h;exact a_nodesIn f)
set_option maxHeartbeats 4000000 in
theorem a_impl_GraftForest (u:List Int) (f:List (List Int)) (hsu:u.length ≤ 1048576) (hf:sumLen f ≤ 1048576) (hf2:f.length ≤ 1048576):AFn Try.prog 11 [eL u,eLL f] (· = [.own 2 ((gfOf u f).1.map eCt) true,.val (.int (gfOf u f).2)]):=by
 have n1:=nodesB_eq f (by omega)
 have s1:=eq_true (And.intro hf hf2)
 have hl:=a_impl_IsLevels u
 have hum:(u.map eI).length = u.length:=List.length_map _
 unfold gfOf
 by_cases hu:lev8 u = true
 rotate_left
 ·have hu:lev8 u = false:=by simpa using hu
  rw [hu] at hl ⊢
  rw [if_neg (by rw [Bool.false_and];decide)]
  simp only [eL] at hl
  refine AFn.of_runs (cfg_ok 27) Try.func11 rfl rfl rfl (by simp only [List.length_cons,List.length_nil];decide) ?_
  have hres:Try.f11.results.toList = [.tmp 4,.tmp 5]:=rfl
  have hrts:Try.f11.resultTypes.toList = [31,2]:=rfl
  simp only [argRegs,argAV1,eL,eI,eLL,eB,Nat.zero_add,Nat.reduceAdd]
  intro M
  refine RunK.of ?_
  repeat' (first|with_reducible (first|refine Q1 ?_|refine Q2 ?_|refine Q3 ?_|refine Q4 ?_|refine Q5 ?_|refine Q6 ?_|refine Q7 ?_|refine Q8 ?_|refine Q9 ?_|refine Qa ?_|refine Qb ?_|refine Qc ?_|refine Qd ?_|refine Qe ?_|refine Qf ?_)|((with_reducible refine Qo ?_ ?_);focus rfl)|((with_reducible first|refine QT 6 (l:=?_) ?_ ?_|refine QF 6 (l:=?_) ?_ ?_);rotate_left 1;focus (simp only [Zu,Nat.reduceSub,Nat.reduceBEq];with_reducible rfl))|((with_reducible first|refine QS (cfg_ok 27) (TGfI.at' 19 hl) (s':=?_) ?_ ?_|refine QC (b:=?_) ?_ ?_);rotate_left 1;focus ((with_reducible refine QW ?_);simp only [Zg,seval,if_true,if_false,reduceCtorEq,Nat.reduceEqDiff,TGfI,eL,s1];with_reducible rfl)))
  (refine Ends.mk (by simp) (rs:=?_) (ks:=?_) hres hrts ?_ ?_ ?_;rotate_left 2;(focus (simp only [Ze,Zg,seval,if_true,if_false,reduceCtorEq,Nat.reduceEqDiff];with_reducible rfl));(focus simp);focus (first|with_reducible rfl|(simp only [Zv];done)))
 by_cases hF:forB f = true
 rotate_left
 ·have hF:forB f = false:=by simpa using hF
  rw [hu] at hl ⊢
  rw [hF,if_neg (by decide)]
  simp only [eL] at hl
  refine AFn.of_runs (cfg_ok 27) Try.func11 rfl rfl rfl (by simp only [List.length_cons,List.length_nil];decide) ?_
  have hres:Try.f11.results.toList = [.tmp 4,.tmp 5]:=rfl
  have hrts:Try.f11.resultTypes.toList = [31,2]:=rfl
  simp only [argRegs,argAV1,eL,eI,eLL,eB,Nat.zero_add,Nat.reduceAdd]
  intro M
  refine RunK.of ?_
  repeat' (first|with_reducible (first|refine Q1 ?_|refine Q2 ?_|refine Q3 ?_|refine Q4 ?_|refine Q5 ?_|refine Q6 ?_|refine Q7 ?_|refine Q8 ?_|refine Q9 ?_|refine Qa ?_|refine Qb ?_|refine Qc ?_|refine Qd ?_|refine Qe ?_|refine Qf ?_)|((with_reducible refine Qo ?_ ?_);focus rfl)|((with_reducible first|refine QT 6 (l:=?_) ?_ ?_|refine QF 6 (l:=?_) ?_ ?_);rotate_left 1;focus (simp only [Zu,Nat.reduceSub,Nat.reduceBEq];with_reducible rfl))|((with_reducible first|refine QS (cfg_ok 27) (TGfI.at' 19 hl) (s':=?_) ?_ ?_|refine QC (b:=?_) ?_ ?_);rotate_left 1;focus ((with_reducible refine QW ?_);simp only [Zg,seval,if_true,if_false,reduceCtorEq,Nat.reduceEqDiff,TGfI,eL,s1,hF];with_reducible rfl)))
  (refine Ends.mk (by simp) (rs:=?_) (ks:=?_) hres hrts ?_ ?_ ?_;rotate_left 2;(focus (simp only [Ze,Zg,seval,if_true,if_false,reduceCtorEq,Nat.reduceEqDiff];with_reducible rfl));(focus simp);focus (first|with_reducible rfl|(simp only [Zv];done)))
 have hw:=w64_eq (n:=(u.length:Int) + (sumLen f:Int)) (by omega)
 rw [hu] at hl ⊢
 rw [hF,if_pos (by decide)]
 by_cases h8:u.length + sumLen f ≤ 8
 rotate_left
 ·have i1:((u.length:Int) + (sumLen f:Int) > 8) = True:=eq_true (by omega)
  rw [if_neg h8]
  simp only [eL] at hl
  refine AFn.of_runs (cfg_ok 27) Try.func11 rfl rfl rfl (by simp only [List.length_cons,List.length_nil];decide) ?_
  have hres:Try.f11.results.toList = [.tmp 4,.tmp 5]:=rfl
  have hrts:Try.f11.resultTypes.toList = [31,2]:=rfl
  simp only [argRegs,argAV1,eL,eI,eLL,eB,Nat.zero_add,Nat.reduceAdd]
  intro M
  refine RunK.of ?_
  repeat' (first|with_reducible (first|refine Q1 ?_|refine Q2 ?_|refine Q3 ?_|refine Q4 ?_|refine Q5 ?_|refine Q6 ?_|refine Q7 ?_|refine Q8 ?_|refine Q9 ?_|refine Qa ?_|refine Qb ?_|refine Qc ?_|refine Qd ?_|refine Qe ?_|refine Qf ?_)|((with_reducible refine Qo ?_ ?_);focus rfl)|((with_reducible first|refine QT 6 (l:=?_) ?_ ?_|refine QF 6 (l:=?_) ?_ ?_);rotate_left 1;focus (simp only [Zu,Nat.reduceSub,Nat.reduceBEq];with_reducible rfl))|((with_reducible first|refine QS (cfg_ok 27) (TGfI.at' 19 hl) (s':=?_) ?_ ?_|refine QC (b:=?_) ?_ ?_);rotate_left 1;focus ((with_reducible refine QW ?_);simp only [Zg,seval,if_true,if_false,reduceCtorEq,Nat.reduceEqDiff,TGfI,eL,s1,hF,n1,hw,i1,hum];with_reducible rfl)))
  (refine Ends.mk (by simp) (rs:=?_) (ks:=?_) hres hrts ?_ ?_ ?_;rotate_left 2;(focus (simp only [Ze,Zg,seval,if_true,if_false,reduceCtorEq,Nat.reduceEqDiff];with_reducible rfl));(focus simp);focus (first|with_reducible rfl|(simp only [Zv];done)))
 have i1:((u.length:Int) + (sumLen f:Int) > 8) = False:=eq_false (by omega)
 rw [if_pos h8]
 have F:=gf_all hu hF h8
 have hcl:=canon_len (lev8_lev hu)
 have hcu:=lev8_canon hu
 have hca:=a_canonical u (lev8_lev hu) (lev8_len hu)
 have hpow:=F.pow
 have hga:=(a_graftAllF (canon u) f hcu F.lev (by omega) F.c1 F.few f.length [] [] (by simp) (by simp) (fun p hp => hp) (by rw [hcl];simp only [List.length_nil];omega)).nil (by decide)
 rw [List.nil_append] at hga
 have hct:=a_countedB (gfX (canon u) f [] f.length) (by rw [gfX_len,hcl];omega) (by have:=gfX_siz F hu;omega)
 rw [cntOf_sumOf,F.c2] at hct
 obtain ⟨V,hV⟩:∃ V,V = sumOf (gfT u f):=⟨_,rfl⟩
 obtain ⟨X,hX⟩:∃ X,X = gfX (canon u) f [] f.length:=⟨_,rfl⟩
 rw [← hV,← hX] at hct
 rw [← hX] at hga
 rw [← hV]
 simp only [eLL,eL] at hl hca hct
 refine AFn.of_runs (cfg_ok 27) Try.func11 rfl rfl rfl (by simp only [List.length_cons,List.length_nil];decide) ?_
 have hres:Try.f11.results.toList = [.tmp 4,.tmp 5]:=rfl
 have hrts:Try.f11.resultTypes.toList = [31,2]:=rfl
 simp only [argRegs,argAV1,eL,eI,eLL,eB,Nat.zero_add,Nat.reduceAdd]
 intro M
 refine RunK.of ?_
 repeat' (first|with_reducible (first|refine Q1 ?_|refine Q2 ?_|refine Q3 ?_|refine Q4 ?_|refine Q5 ?_|refine Q6 ?_|refine Q7 ?_|refine Q8 ?_|refine Q9 ?_|refine Qa ?_|refine Qb ?_|refine Qc ?_|refine Qd ?_|refine Qe ?_|refine Qf ?_)|((with_reducible refine Qo ?_ ?_);focus rfl)|((with_reducible first|refine QT 6 (l:=?_) ?_ ?_|refine QF 6 (l:=?_) ?_ ?_);rotate_left 1;focus (simp only [Zu,Nat.reduceSub,Nat.reduceBEq];with_reducible rfl))|((with_reducible first|refine QS (cfg_ok 27) (TGfI.at' 19 hl) (s':=?_) ?_ ?_|refine QC (b:=?_) ?_ ?_);rotate_left 1;focus ((with_reducible refine QW ?_);simp only [Zg,seval,if_true,if_false,reduceCtorEq,Nat.reduceEqDiff,TGfI,eL,eLL,s1,hF,n1,hw,i1,hum];with_reducible rfl)))
 refine RunK.regCut (cfg_ok 27) (Tab.none.at' 49 hca) 3 (s1:=?_) ?_ ?_
 rotate_left 1
 focus (refine Work.mk ?_;simp only [Zg,seval,if_true,if_false,reduceCtorEq,Nat.reduceEqDiff];with_reducible rfl)
 simp only [List.toList_toArray,List.drop_succ_cons,List.drop_zero]
 refine ROps.frzs [23] ?_
 refine ROps.callNil (cfg_ok 27) (d:=25) (g:=48) (xs:=[.tmp 23,.const (.slice none 0 0),.tmp 24]) (tx:=[27,98,34]) (pre:=[eL (canon u),eL [],eLL f]) rfl (by decide) rfl rfl rfl rfl rfl rfl hga rfl ?_
 refine ROps.opsT (cfg_ok 27) (T:=Tab.none.at' 47 hct) (s':=?_) ?_ ?_
 rotate_left 1
 focus (simp only [Zg,seval,if_true,if_false,reduceCtorEq,Nat.reduceEqDiff];with_reducible rfl)
 repeat' (first|with_reducible (first|refine Q1 ?_|refine Q2 ?_|refine Q3 ?_|refine Q4 ?_|refine Q5 ?_|refine Q6 ?_|refine Q7 ?_|refine Q8 ?_|refine Q9 ?_|refine Qa ?_|refine Qb ?_|refine Qc ?_|refine Qd ?_|refine Qe ?_|refine Qf ?_)|((with_reducible refine Qo ?_ ?_);focus rfl)|((with_reducible first|refine QT 6 (l:=?_) ?_ ?_|refine QF 6 (l:=?_) ?_ ?_);rotate_left 1;focus (simp only [Zu,Nat.reduceSub,Nat.reduceBEq];with_reducible rfl))|((with_reducible first|refine QS (cfg_ok 27) Tab.none (s':=?_) ?_ ?_|refine QC (b:=?_) ?_ ?_);rotate_left 1;focus ((with_reducible refine QW ?_);simp only [Zg,seval,if_true,if_false,reduceCtorEq,Nat.reduceEqDiff];with_reducible rfl)))
 (refine Ends.mk (by simp) (rs:=?_) (ks:=?_) hres hrts ?_ ?_ ?_;rotate_left 2;(focus (simp only [Ze,Zg,seval,if_true,if_false,reduceCtorEq,Nat.reduceEqDiff];with_reducible rfl));(focus simp);focus (first|with_reducible rfl|(simp only [Zv];done)))
noncomputable def TGfS:Tab Try.prog :=
 (Tab.none.add 57 (tab1 codLL fun f => if sumLen f ≤ 1048576∧f.length ≤ 1048576 then some [.val (.bool (forB f))] else none) (tab1_ok fun f rs h => by split at h;cases h;rename_i hs;exact a_l03Forest f (by omega) (by omega);cases h)).add
  58 (tab1 codLL fun f => some [.val (.int (nodesB f))]) (tab1_ok fun f rs h => by cases h;exact a_l03Nodes f)
theorem lev_bd {t:List Int} (h:lev8 t = true):∀ x ∈ t,-100 ≤ x∧x ≤ 100:=fun x hx => by
 obtain ⟨i,hi,rfl⟩:=List.mem_iff_getElem.1 hx
 have:=(lev8_lev h).bd i hi
 have:=lev8_len h
 omega
set_option maxRecDepth 20000 in
set_option maxHeartbeats 16000000 in
theorem a_spec_GraftForest (u:List Int) (f:List (List Int)) (hsu:u.length ≤ 1048576) (hf:sumLen f ≤ 1048576) (hf2:f.length ≤ 1048576):AFn Try.prog 15 [eL u,eLL f] (· = [.own 2 ((gfOf u f).1.map eCt) (!(lev8 u && forB f && decide (u.length + sumLen f ≤ 8))),.val (.int (gfOf u f).2)]):=by
 have n1:=nodesB_eq f (by omega)
 have s1:=eq_true (And.intro hf hf2)
 have hl:=a_spec_l03Is u hsu
 have hum:(u.map eI).length = u.length:=List.length_map _
 have hfm:(f.map eL).length = f.length:=List.length_map _
 unfold gfOf
 by_cases hu:lev8 u = true
 rotate_left
 ·have hu:lev8 u = false:=by simpa using hu
  rw [hu] at hl ⊢
  rw [if_neg (by rw [Bool.false_and];decide),Bool.false_and,Bool.false_and]
  simp only [eL] at hl
  refine AFn.of_runs (cfg_ok 65) Try.func15 rfl rfl rfl (by simp only [List.length_cons,List.length_nil];decide) ?_
  have hres:Try.f15.results.toList = [.tmp 4,.tmp 5]:=rfl
  have hrts:Try.f15.resultTypes.toList = [31,2]:=rfl
  simp only [argRegs,argAV1,eL,eI,eLL,eB,Nat.zero_add,Nat.reduceAdd]
  intro M
  refine RunK.of ?_
  repeat' (first|with_reducible (first|refine Q1 ?_|refine Q2 ?_|refine Q3 ?_|refine Q4 ?_|refine Q5 ?_|refine Q6 ?_|refine Q7 ?_|refine Q8 ?_|refine Q9 ?_|refine Qa ?_|refine Qb ?_|refine Qc ?_|refine Qd ?_|refine Qe ?_|refine Qf ?_)|((with_reducible refine Qo ?_ ?_);focus rfl)|((with_reducible first|refine QT 9 (l:=?_) ?_ ?_|refine QF 9 (l:=?_) ?_ ?_);rotate_left 1;focus (simp only [Zu,Nat.reduceSub,Nat.reduceBEq];with_reducible rfl))|((with_reducible first|refine QS (cfg_ok 65) (TGfS.at' 56 hl) (s':=?_) ?_ ?_|refine QC (b:=?_) ?_ ?_);rotate_left 1;focus ((with_reducible refine QW ?_);simp only [Zg,seval,if_true,if_false,reduceCtorEq,Nat.reduceEqDiff,TGfS,eL,s1];with_reducible rfl)))
  (refine Ends.mk (by simp) (rs:=?_) (ks:=?_) hres hrts ?_ ?_ ?_;rotate_left 2;(focus (simp only [Ze,Zg,seval,if_true,if_false,reduceCtorEq,Nat.reduceEqDiff,Bool.not_false];with_reducible rfl));(focus simp);focus (first|with_reducible rfl|(simp only [Zv,Bool.not_false];done)))
 by_cases hF:forB f = true
 rotate_left
 ·have hF:forB f = false:=by simpa using hF
  rw [hu] at hl ⊢
  rw [hF,if_neg (by decide),Bool.and_false,Bool.false_and]
  simp only [eL] at hl
  refine AFn.of_runs (cfg_ok 65) Try.func15 rfl rfl rfl (by simp only [List.length_cons,List.length_nil];decide) ?_
  have hres:Try.f15.results.toList = [.tmp 4,.tmp 5]:=rfl
  have hrts:Try.f15.resultTypes.toList = [31,2]:=rfl
  simp only [argRegs,argAV1,eL,eI,eLL,eB,Nat.zero_add,Nat.reduceAdd]
  intro M
  refine RunK.of ?_
  repeat' (first|with_reducible (first|refine Q1 ?_|refine Q2 ?_|refine Q3 ?_|refine Q4 ?_|refine Q5 ?_|refine Q6 ?_|refine Q7 ?_|refine Q8 ?_|refine Q9 ?_|refine Qa ?_|refine Qb ?_|refine Qc ?_|refine Qd ?_|refine Qe ?_|refine Qf ?_)|((with_reducible refine Qo ?_ ?_);focus rfl)|((with_reducible first|refine QT 9 (l:=?_) ?_ ?_|refine QF 9 (l:=?_) ?_ ?_);rotate_left 1;focus (simp only [Zu,Nat.reduceSub,Nat.reduceBEq];with_reducible rfl))|((with_reducible first|refine QS (cfg_ok 65) (TGfS.at' 56 hl) (s':=?_) ?_ ?_|refine QC (b:=?_) ?_ ?_);rotate_left 1;focus ((with_reducible refine QW ?_);simp only [Zg,seval,if_true,if_false,reduceCtorEq,Nat.reduceEqDiff,TGfS,eL,s1,hF];with_reducible rfl)))
  (refine Ends.mk (by simp) (rs:=?_) (ks:=?_) hres hrts ?_ ?_ ?_;rotate_left 2;(focus (simp only [Ze,Zg,seval,if_true,if_false,reduceCtorEq,Nat.reduceEqDiff,Bool.not_false];with_reducible rfl));(focus simp);focus (first|with_reducible rfl|(simp only [Zv,Bool.not_false];done)))
 have hw:=w64_eq (n:=(u.length:Int) + (sumLen f:Int)) (by omega)
 rw [hu] at hl ⊢
 rw [hF,if_pos (by decide),Bool.and_self,Bool.true_and]
 by_cases h8:u.length + sumLen f ≤ 8
 rotate_left
 ·have i1:((u.length:Int) + (sumLen f:Int) > 8) = True:=eq_true (by omega)
  rw [if_neg h8,decide_eq_false h8]
  simp only [eL] at hl
  refine AFn.of_runs (cfg_ok 65) Try.func15 rfl rfl rfl (by simp only [List.length_cons,List.length_nil];decide) ?_
  have hres:Try.f15.results.toList = [.tmp 4,.tmp 5]:=rfl
  have hrts:Try.f15.resultTypes.toList = [31,2]:=rfl
  simp only [argRegs,argAV1,eL,eI,eLL,eB,Nat.zero_add,Nat.reduceAdd]
  intro M
  refine RunK.of ?_
  repeat' (first|with_reducible (first|refine Q1 ?_|refine Q2 ?_|refine Q3 ?_|refine Q4 ?_|refine Q5 ?_|refine Q6 ?_|refine Q7 ?_|refine Q8 ?_|refine Q9 ?_|refine Qa ?_|refine Qb ?_|refine Qc ?_|refine Qd ?_|refine Qe ?_|refine Qf ?_)|((with_reducible refine Qo ?_ ?_);focus rfl)|((with_reducible first|refine QT 9 (l:=?_) ?_ ?_|refine QF 9 (l:=?_) ?_ ?_);rotate_left 1;focus (simp only [Zu,Nat.reduceSub,Nat.reduceBEq];with_reducible rfl))|((with_reducible first|refine QS (cfg_ok 65) (TGfS.at' 56 hl) (s':=?_) ?_ ?_|refine QC (b:=?_) ?_ ?_);rotate_left 1;focus ((with_reducible refine QW ?_);simp only [Zg,seval,if_true,if_false,reduceCtorEq,Nat.reduceEqDiff,TGfS,eL,s1,hF,n1,hw,i1,hum];with_reducible rfl)))
  (refine Ends.mk (by simp) (rs:=?_) (ks:=?_) hres hrts ?_ ?_ ?_;rotate_left 2;(focus (simp only [Ze,Zg,seval,if_true,if_false,reduceCtorEq,Nat.reduceEqDiff,Bool.not_false];with_reducible rfl));(focus simp);focus (first|with_reducible rfl|(simp only [Zv,Bool.not_false];done)))
 have i1:((u.length:Int) + (sumLen f:Int) > 8) = False:=eq_false (by omega)
 rw [if_pos h8,decide_eq_true h8]
 have F:=gf_all hu hF h8
 have hup:=(lev8_lev hu).pos
 have hpow:=F.pow
 have hfew:=F.few
 obtain ⟨P,hP⟩:∃ P,P = plcO u.length f.length:=⟨_,rfl⟩
 have hPl:P.length = u.length ^ f.length:=by rw [hP,plcO_len]
 have hP0:P[0]? = some (List.replicate f.length 0):=by rw [hP];exact plcO_zero hup _
 have hPn:∀ t p,P[t]? = some p→nxtP u.length p = P[t + 1]?:=fun t p h => by rw [hP] at h ⊢;exact nxtP_at hup _ t p h
 have hPm:∀ p ∈ P,p.length = f.length∧∀ n ∈ p,n < u.length:=fun p hp => by rw [hP] at hp;exact plcO_mem hp
 have hPv:∀ p ∈ P,lev8 (mixL u f p) = true:=fun p hp => F.c3 p (by rw [← hP];exact hp)
 obtain ⟨G,hG⟩:∃ G,G = P.map fun ps => canon (mixL u f ps):=⟨_,rfl⟩
 have hGT:gfT u f = G:=by rw [hG,hP];rfl
 rw [hGT]
 simp only [eL] at hl
 refine AFn.of_runs (cfg_ok 65) Try.func15 rfl rfl rfl (by simp only [List.length_cons,List.length_nil];decide) ?_
 have hres:Try.f15.results.toList = [.tmp 4,.tmp 5]:=rfl
 have hrts:Try.f15.resultTypes.toList = [31,2]:=rfl
 simp only [argRegs,argAV1,eL,eI,eLL,eB,Nat.zero_add,Nat.reduceAdd]
 intro M
 refine RunK.of ?_
 repeat' (first|with_reducible (first|refine Q1 ?_|refine Q2 ?_|refine Q3 ?_|refine Q4 ?_|refine Q5 ?_|refine Q6 ?_|refine Q7 ?_|refine Q8 ?_|refine Q9 ?_|refine Qa ?_|refine Qb ?_|refine Qc ?_|refine Qd ?_|refine Qe ?_|refine Qf ?_)|((with_reducible refine Qo ?_ ?_);focus rfl)|((with_reducible first|refine QT 9 (l:=?_) ?_ ?_|refine QF 9 (l:=?_) ?_ ?_);rotate_left 1;focus (simp only [Zu,Nat.reduceSub,Nat.reduceBEq];with_reducible rfl))|((with_reducible first|refine QS (cfg_ok 65) (TGfS.at' 56 hl) (s':=?_) ?_ ?_|refine QC (b:=?_) ?_ ?_);rotate_left 1;focus ((with_reducible refine QW ?_);simp only [Zg,seval,if_true,if_false,reduceCtorEq,Nat.reduceEqDiff,TGfS,eL,s1,hF,n1,hw,i1,hum,hfm];with_reducible rfl)))
 have mk1:((0:Int) ≤ (f.length:Int)) = True:=eq_true (by omega)
 have mk2:((f.length:Int) * 1 ≤ 16777216) = True:=eq_true (by omega)
 have mk3:((f.length:Int) * ((1:Nat):Int) ≤ 16777216) = True:=eq_true (by omega)
 have mk4:((f.length:Int) * 8 ≤ 281474976710656) = True:=eq_true (by omega)
 have mk5:((f.length:Int) * ((8:Nat):Int) ≤ 281474976710656) = True:=eq_true (by omega)
 repeat' (first|with_reducible (first|refine Q1 ?_|refine Q2 ?_|refine Q3 ?_|refine Q4 ?_|refine Q5 ?_|refine Q6 ?_|refine Q7 ?_|refine Q8 ?_|refine Q9 ?_|refine Qa ?_|refine Qb ?_|refine Qc ?_|refine Qd ?_|refine Qe ?_|refine Qf ?_)|((with_reducible refine Qo ?_ ?_);focus rfl)|((with_reducible first|refine QT 9 (l:=?_) ?_ ?_|refine QF 9 (l:=?_) ?_ ?_);rotate_left 1;focus (simp only [Zu,Nat.reduceSub,Nat.reduceBEq];with_reducible rfl))|((with_reducible first|refine QS (cfg_ok 65) Tab.none (s':=?_) ?_ ?_|refine QC (b:=?_) ?_ ?_);rotate_left 1;focus ((with_reducible refine QW ?_);simp only [Zg,seval,if_true,if_false,reduceCtorEq,Nat.reduceEqDiff,hfm,mk1,mk2,mk3,mk4,mk5,Int.toNat_natCast];with_reducible rfl)))
 have hGl:G.length = u.length ^ f.length:=by rw [hG,List.length_map,hPl]
 refine RunK.loop (β:=Nat × List Nat) (γ:=Unit) (fun x => ⟨[(0,.c (.val (.sl 1 (u.map eI)))),(1,.c (.val (.sl 1 (f.map eL)))),(6,.c (.own 6 (sumOf (G.take x.1)).length)),(7,.c (.own 7 f.length))],[(6,.row 2 ((sumOf (G.take x.1)).map eCt) false),(7,.row 1 ((intN x.2).map eI) true)]⟩) (fun x => P[x.1]? = some x.2) (fun x => P.length - x.1)
  (fun _ => ⟨[],[]⟩) (fun _ => False) (0,List.replicate f.length 0) hP0 ?_ ?_ ?_
 ·(repeat' (first|with_reducible refine Qn|((with_reducible refine Qr ?_ ?_);focus (first|with_reducible rfl|(simp only [Zz,Nat.reduceBEq,List.take_zero,show sumOf [] = [] from rfl,List.map_nil,List.length_nil,intN,List.map_replicate,eI,Int.natCast_zero];done)|rfl))|((with_reducible refine Qj (o':=?_) ?_ ?_ ?_);rotate_left 1;focus rfl)|((with_reducible refine Qw ?_ ?_);(focus (first|with_reducible rfl|(simp only [Zv,List.take_zero,show sumOf [] = [] from rfl,List.map_nil,List.length_nil,intN,List.map_replicate,eI,Int.natCast_zero];done)));focus (first|exact id|exact (fun h => nomatch h)|exact (fun _ => rfl)))))
  all_goals first|exact ⟨rfl,rfl⟩|exact ⟨rfl,rfl,id⟩|exact ⟨rfl,rfl,fun h => nomatch h⟩
 ·rintro ⟨t,p⟩ hp
  have hp:P[t]? = some p:=hp
  obtain ⟨ht,hpe⟩:=List.getElem?_eq_some_iff.1 hp
  have hpm:p ∈ P:=by rw [← hpe];exact List.getElem_mem _
  obtain ⟨hpl,hpb⟩:=hPm p hpm
  have hnx:=hPn t p hp
  have hv8:=hPv p hpm
  have hmx:AFn Try.prog 60 [eL u,eLL f,eL (intN p)] (· = [.own 1 ((canon (mixL u f p)).map eI) true]) :=
   a_l04Mixed u f p (lev8_len hu) hfew (by omega) hpl (lev_bd hu) (fun v hv => lev_bd (F.lev v hv)) (fun n hn => by have:=hpb n hn;have:=lev8_len hu;omega) (lev8_lev hv8)
  have hgt:G.take (t + 1) = G.take t ++ [canon (mixL u f p)]:=by
   rw [List.take_succ_eq_append_getElem (by rw [hG,List.length_map];exact ht)]
   congr 2
   simp only [hG,List.getElem_map,hpe]
  have hsl:=sumOf_len (G.take t)
  rw [List.length_take] at hsl
  have hput:=a_l04Put (sumOf (G.take t)) (canon (mixL u f p)) 1 (sumOf_rise _) (by omega) (by rw [canon_len (lev8_lev hv8)];have:=lev8_len hv8;omega) (fun z hz => by
   have:=(sumOf_is (G.take t)).cnt z hz
   rw [List.length_take] at this
   unfold In64;omega)
  rw [← sumOf_snoc,← hgt] at hput
  have hil:((intN p).map eI).length = f.length:=by rw [List.length_map];unfold intN;rw [List.length_map,hpl]
  obtain ⟨A,hA⟩:∃ A,A = sumOf (G.take t):=⟨_,rfl⟩
  obtain ⟨B,hB⟩:∃ B,B = sumOf (G.take (t + 1)):=⟨_,rfl⟩
  rw [← hA,← hB] at hput
  rw [← hA]
  simp only [eLL,eL,eI] at hmx hput
  repeat' (first|with_reducible (first|refine Q1 ?_|refine Q2 ?_|refine Q3 ?_|refine Q4 ?_|refine Q5 ?_|refine Q6 ?_|refine Q7 ?_|refine Q8 ?_|refine Q9 ?_|refine Qa ?_|refine Qb ?_|refine Qc ?_|refine Qd ?_|refine Qe ?_|refine Qf ?_)|((with_reducible refine Qo ?_ ?_);focus rfl)|((with_reducible first|refine QT 9 (l:=?_) ?_ ?_|refine QF 9 (l:=?_) ?_ ?_);rotate_left 1;focus (simp only [Zu,Nat.reduceSub,Nat.reduceBEq];with_reducible rfl))|((with_reducible first|refine QS (cfg_ok 65) ((Tab.none.at' 60 hmx).at' 59 hput) (s':=?_) ?_ ?_|refine QC (b:=?_) ?_ ?_);rotate_left 1;focus ((with_reducible refine QW ?_);simp only [Zg,seval,if_true,if_false,reduceCtorEq,Nat.reduceEqDiff,hil,eI];with_reducible rfl)))
  have hgn:∀ (q:List Nat) (c:Nat),c < q.length→((intN q).map eI)[c]? = some [.int ((q.getD c 0:Nat):Int)]:=fun q c hc => by
   unfold intN
   rw [List.getElem?_map,List.getElem?_map,List.getElem?_eq_getElem hc,List.getD_eq_getElem?_getD,List.getElem?_eq_getElem hc];rfl
  have hsn:∀ (q:List Nat) (c d:Nat),((intN q).map eI).set c [.int ((d:Nat):Int)] = (intN (q.set c d)).map eI:=fun q c d => by
   unfold intN
   rw [List.map_set,List.map_set];rfl
  have hrl:∀ c,c ≤ p.length→(List.replicate c 0 ++ p.drop c).length = f.length:=fun c hc => by rw [List.length_append,List.length_replicate,List.length_drop];omega
  have hrg:∀ c,c < p.length→(List.replicate c 0 ++ p.drop c).getD c 0 = p.getD c 0:=fun c hc => by
   rw [List.getD_eq_getElem?_getD,List.getElem?_append_right (by simp),List.length_replicate,Nat.sub_self,List.getElem?_drop,Nat.add_zero,List.getD_eq_getElem?_getD]
  have hwm:w64 ((u.length:Int) - 1) = (u.length:Int) - 1:=w64_eq (by have:=lev8_len hu;omega)
  refine RunK.loop (β:=Nat) (γ:=Nat) (fun c => ⟨[(0,.c (.val (.sl 1 (u.map eI)))),(1,.c (.val (.sl 1 (f.map eL)))),(6,.c (.own 6 B.length)),(7,.c (.own 7 f.length)),(8,.c (.val (.int c)))],[(6,.row 2 (B.map eCt) false),(7,.row 1 ((intN (List.replicate c 0 ++ p.drop c)).map eI) true)]⟩) (fun c => c ≤ f.length∧∀ i,i < c→p.getD i 0 + 1 = u.length) (fun c => f.length - c)
   (fun c => ⟨[(0,.c (.val (.sl 1 (u.map eI)))),(1,.c (.val (.sl 1 (f.map eL)))),(6,.c (.own 6 B.length)),(7,.c (.own 7 f.length)),(8,.c (.val (.int c)))],[(6,.row 2 (B.map eCt) false),(7,.row 1 ((intN (List.replicate c 0 ++ p.drop c)).map eI) true)]⟩) (fun c => (c ≤ f.length∧∀ i,i < c→p.getD i 0 + 1 = u.length)∧(c < f.length→p.getD c 0 + 1 ≠ u.length)) 0 ⟨Nat.zero_le _,fun i hi => absurd hi (Nat.not_lt_zero _)⟩ ?_ ?_ ?_
  ·(repeat' (first|with_reducible refine Qn|((with_reducible refine Qr ?_ ?_);focus (first|with_reducible rfl|(simp only [Zz,Nat.reduceBEq,List.replicate_zero,List.nil_append,List.drop_zero,List.length_map,Int.natCast_zero];done)|rfl))|((with_reducible refine Qj (o':=?_) ?_ ?_ ?_);rotate_left 1;focus rfl)|((with_reducible refine Qw ?_ ?_);(focus (first|with_reducible rfl|(simp only [Zv,List.replicate_zero,List.nil_append,List.drop_zero,List.length_map,Int.natCast_zero];done)));focus (first|exact id|exact (fun h => nomatch h)|exact (fun _ => rfl)))))
   all_goals first|exact ⟨rfl,rfl⟩|exact ⟨rfl,rfl,id⟩|exact ⟨rfl,rfl,fun h => nomatch h⟩
  ·rintro c ⟨hc,hcm⟩
   have hwc:=w64_succ (n:=c) (by omega)
   have k2:((0:Int) ≤ (c:Int)) = True:=eq_true (by omega)
   by_cases hcf:c < f.length
   ·have k1:((c:Int) < (f.length:Int)) = True:=eq_true (by omega)
    have hq:=hgn (List.replicate c 0 ++ p.drop c) c (by rw [hrl c (by omega)];exact hcf)
    rw [hrg c (by omega)] at hq
    have hs:=hsn (List.replicate c 0 ++ p.drop c) c 0
    rw [rep_set (by omega)] at hs
    have hil2:((intN (List.replicate c 0 ++ p.drop c)).map eI).length = f.length:=by rw [List.length_map];unfold intN;rw [List.length_map,hrl c (by omega)]
    obtain ⟨d,hd⟩:∃ d,d = p.getD c 0:=⟨_,rfl⟩
    obtain ⟨R,hR⟩:∃ R,R = (intN (List.replicate c 0 ++ p.drop c)).map eI:=⟨_,rfl⟩
    rw [← hd] at hq
    rw [← hR] at hq hs hil2 ⊢
    by_cases he:d + 1 = u.length
    ·have be:(((d:Nat):Int) == (u.length:Int) - 1) = true:=by rw [beq_iff_eq];omega
     have hs:R.set c [D.int 0] = (intN (List.replicate (c + 1) 0 ++ p.drop (c + 1))).map eI:=hs
     repeat' (first|with_reducible (first|refine Q1 ?_|refine Q2 ?_|refine Q3 ?_|refine Q4 ?_|refine Q5 ?_|refine Q6 ?_|refine Q7 ?_|refine Q8 ?_|refine Q9 ?_|refine Qa ?_|refine Qb ?_|refine Qc ?_|refine Qd ?_|refine Qe ?_|refine Qf ?_)|((with_reducible refine Qo ?_ ?_);focus rfl)|((with_reducible first|refine QT 9 (l:=?_) ?_ ?_|refine QF 9 (l:=?_) ?_ ?_);rotate_left 1;focus (simp only [Zu,Nat.reduceSub,Nat.reduceBEq];with_reducible rfl))|((with_reducible first|refine QS (cfg_ok 65) Tab.none (s':=?_) ?_ ?_|refine QC (b:=?_) ?_ ?_);rotate_left 1;focus ((with_reducible refine QW ?_);simp only [Zg,seval,if_true,if_false,reduceCtorEq,Nat.reduceEqDiff,k1,k2,hum,hfm,hil2,hq,hwm,be,hwc,hs,Int.toNat_natCast];with_reducible rfl)))
     refine roundK.on (c + 1) ⟨⟨hcf,fun i hi => ?_⟩,by omega⟩ ?_
     ·by_cases e:i = c
      ·rw [e,← hd];exact he
      ·exact hcm i (by omega)
     (repeat' (first|with_reducible refine Qn|((with_reducible refine Qr ?_ ?_);focus (first|with_reducible rfl|(simp only [Zz,Nat.reduceBEq];done)|rfl))|((with_reducible refine Qj (o':=?_) ?_ ?_ ?_);rotate_left 1;focus rfl)|((with_reducible refine Qw ?_ ?_);(focus (first|with_reducible rfl|(simp only [Zv];done)));focus (first|exact id|exact (fun h => nomatch h)|exact (fun _ => rfl)))))
    ·have be:(((d:Nat):Int) == (u.length:Int) - 1) = false:=by simp only [beq_eq_false_iff_ne,ne_eq];omega
     repeat' (first|with_reducible (first|refine Q1 ?_|refine Q2 ?_|refine Q3 ?_|refine Q4 ?_|refine Q5 ?_|refine Q6 ?_|refine Q7 ?_|refine Q8 ?_|refine Q9 ?_|refine Qa ?_|refine Qb ?_|refine Qc ?_|refine Qd ?_|refine Qe ?_|refine Qf ?_)|((with_reducible refine Qo ?_ ?_);focus rfl)|((with_reducible first|refine QT 9 (l:=?_) ?_ ?_|refine QF 9 (l:=?_) ?_ ?_);rotate_left 1;focus (simp only [Zu,Nat.reduceSub,Nat.reduceBEq];with_reducible rfl))|((with_reducible first|refine QS (cfg_ok 65) Tab.none (s':=?_) ?_ ?_|refine QC (b:=?_) ?_ ?_);rotate_left 1;focus ((with_reducible refine QW ?_);simp only [Zg,seval,if_true,if_false,reduceCtorEq,Nat.reduceEqDiff,k1,k2,hum,hfm,hil2,hq,hwm,be,Int.toNat_natCast];with_reducible rfl)))
     refine roundK.out c ⟨⟨hc,hcm⟩,fun _ => by rw [← hd];exact he⟩ ?_
     rw [← hR]
     (repeat' (first|with_reducible refine Qn|((with_reducible refine Qr ?_ ?_);focus (first|with_reducible rfl|(simp only [Zz,Nat.reduceBEq];done)|rfl))|((with_reducible refine Qj (o':=?_) ?_ ?_ ?_);rotate_left 1;focus rfl)|((with_reducible refine Qw ?_ ?_);(focus (first|with_reducible rfl|(simp only [Zv];done)));focus (first|exact id|exact (fun h => nomatch h)|exact (fun _ => rfl)))))
   ·have k1:((c:Int) < (f.length:Int)) = False:=eq_false (by omega)
    repeat' (first|with_reducible (first|refine Q1 ?_|refine Q2 ?_|refine Q3 ?_|refine Q4 ?_|refine Q5 ?_|refine Q6 ?_|refine Q7 ?_|refine Q8 ?_|refine Q9 ?_|refine Qa ?_|refine Qb ?_|refine Qc ?_|refine Qd ?_|refine Qe ?_|refine Qf ?_)|((with_reducible refine Qo ?_ ?_);focus rfl)|((with_reducible first|refine QT 9 (l:=?_) ?_ ?_|refine QF 9 (l:=?_) ?_ ?_);rotate_left 1;focus (simp only [Zu,Nat.reduceSub,Nat.reduceBEq];with_reducible rfl))|((with_reducible first|refine QS (cfg_ok 65) Tab.none (s':=?_) ?_ ?_|refine QC (b:=?_) ?_ ?_);rotate_left 1;focus ((with_reducible refine QW ?_);simp only [Zg,seval,if_true,if_false,reduceCtorEq,Nat.reduceEqDiff,k1,hfm];with_reducible rfl)))
    refine roundK.out c ⟨⟨hc,hcm⟩,fun h => absurd h hcf⟩ ?_
    (repeat' (first|with_reducible refine Qn|((with_reducible refine Qr ?_ ?_);focus (first|with_reducible rfl|(simp only [Zz,Nat.reduceBEq];done)|rfl))|((with_reducible refine Qj (o':=?_) ?_ ?_ ?_);rotate_left 1;focus rfl)|((with_reducible refine Qw ?_ ?_);(focus (first|with_reducible rfl|(simp only [Zv];done)));focus (first|exact id|exact (fun h => nomatch h)|exact (fun _ => rfl)))))
  ·rintro c ⟨⟨hc,hcm⟩,hcn⟩
   have k2:((0:Int) ≤ (c:Int)) = True:=eq_true (by omega)
   by_cases hcf:c < f.length
   ·have k1:((c:Int) < (f.length:Int)) = True:=eq_true (by omega)
    have bc:((c:Int) == (f.length:Int)) = false:=by simp only [beq_eq_false_iff_ne,ne_eq];omega
    have hq:=hgn (List.replicate c 0 ++ p.drop c) c (by rw [hrl c (by omega)];exact hcf)
    rw [hrg c (by omega)] at hq
    have hn2:=nxtP_some (m:=u.length) (by omega) hcm (hcn hcf)
    rw [hnx] at hn2
    have hs:=hsn (List.replicate c 0 ++ p.drop c) c (p.getD c 0 + 1)
    have hil2:((intN (List.replicate c 0 ++ p.drop c)).map eI).length = f.length:=by rw [List.length_map];unfold intN;rw [List.length_map,hrl c (by omega)]
    have hdb:p.getD c 0 < u.length:=by
     rw [List.getD_eq_getElem?_getD,List.getElem?_eq_getElem (by omega)]
     exact hpb _ (List.getElem_mem _)
    obtain ⟨d,hd⟩:∃ d,d = p.getD c 0:=⟨_,rfl⟩
    obtain ⟨R,hR⟩:∃ R,R = (intN (List.replicate c 0 ++ p.drop c)).map eI:=⟨_,rfl⟩
    obtain ⟨p',hp'⟩:∃ p',p' = (List.replicate c 0 ++ p.drop c).set c (p.getD c 0 + 1):=⟨_,rfl⟩
    rw [← hp'] at hn2 hs
    rw [← hd] at hq hs hdb
    rw [← hR] at hq hs hil2 ⊢
    have hwd:w64 ((d:Int) + 1) = ((d + 1:Nat):Int):=by have:=lev8_len hu;rw [w64_eq (by omega)];omega
    have hlt:t + 1 < P.length:=by
     obtain ⟨h,_⟩:=List.getElem?_eq_some_iff.1 hn2
     exact h
    repeat' (first|with_reducible (first|refine Q1 ?_|refine Q2 ?_|refine Q3 ?_|refine Q4 ?_|refine Q5 ?_|refine Q6 ?_|refine Q7 ?_|refine Q8 ?_|refine Q9 ?_|refine Qa ?_|refine Qb ?_|refine Qc ?_|refine Qd ?_|refine Qe ?_|refine Qf ?_)|((with_reducible refine Qo ?_ ?_);focus rfl)|((with_reducible first|refine QT 9 (l:=?_) ?_ ?_|refine QF 9 (l:=?_) ?_ ?_);rotate_left 1;focus (simp only [Zu,Nat.reduceSub,Nat.reduceBEq];with_reducible rfl))|((with_reducible first|refine QS (cfg_ok 65) Tab.none (s':=?_) ?_ ?_|refine QC (b:=?_) ?_ ?_);rotate_left 1;focus ((with_reducible refine QW ?_);simp only [Zg,seval,if_true,if_false,reduceCtorEq,Nat.reduceEqDiff,k1,k2,bc,hfm,hil2,hq,hwd,hs,Int.toNat_natCast];with_reducible rfl)))
    refine roundK.on (t + 1,p') ⟨hn2,by show P.length - (t + 1) < P.length - t;omega⟩ ?_
    rw [hB]
    (repeat' (first|with_reducible refine Qn|((with_reducible refine Qr ?_ ?_);focus (first|with_reducible rfl|(simp only [Zz,Nat.reduceBEq,List.length_map];done)|rfl))|((with_reducible refine Qj (o':=?_) ?_ ?_ ?_);rotate_left 1;focus rfl)|((with_reducible refine Qw ?_ ?_);(focus (first|with_reducible rfl|(simp only [Zv,List.length_map];done)));focus (first|exact id|exact (fun h => nomatch h)|exact (fun _ => rfl)))))
   ·obtain rfl:c = f.length:=by omega
    have bc:((f.length:Int) == (f.length:Int)) = true:=by simp
    have hdone:=nxtP_done (m:=u.length) (p:=p) (fun i hi => hcm i (by omega))
    rw [hnx] at hdone
    have hlast:P.length ≤ t + 1:=List.getElem?_eq_none_iff.1 hdone
    have hBG:B = sumOf G:=by rw [hB,List.take_of_length_le (by rw [hGl,← hPl];exact hlast)]
    rw [hBG]
    repeat' (first|with_reducible (first|refine Q1 ?_|refine Q2 ?_|refine Q3 ?_|refine Q4 ?_|refine Q5 ?_|refine Q6 ?_|refine Q7 ?_|refine Q8 ?_|refine Q9 ?_|refine Qa ?_|refine Qb ?_|refine Qc ?_|refine Qd ?_|refine Qe ?_|refine Qf ?_)|((with_reducible refine Qo ?_ ?_);focus rfl)|((with_reducible first|refine QT 9 (l:=?_) ?_ ?_|refine QF 9 (l:=?_) ?_ ?_);rotate_left 1;focus (simp only [Zu,Nat.reduceSub,Nat.reduceBEq];with_reducible rfl))|((with_reducible first|refine QS (cfg_ok 65) Tab.none (s':=?_) ?_ ?_|refine QC (b:=?_) ?_ ?_);rotate_left 1;focus ((with_reducible refine QW ?_);simp only [Zg,seval,if_true,if_false,reduceCtorEq,Nat.reduceEqDiff,bc,hfm];with_reducible rfl)))
    refine roundK.ret ?_
    repeat' (first|with_reducible (first|refine Q1 ?_|refine Q2 ?_|refine Q3 ?_|refine Q4 ?_|refine Q5 ?_|refine Q6 ?_|refine Q7 ?_|refine Q8 ?_|refine Q9 ?_|refine Qa ?_|refine Qb ?_|refine Qc ?_|refine Qd ?_|refine Qe ?_|refine Qf ?_)|((with_reducible refine Qo ?_ ?_);focus rfl)|((with_reducible first|refine QT 9 (l:=?_) ?_ ?_|refine QF 9 (l:=?_) ?_ ?_);rotate_left 1;focus (simp only [Zu,Nat.reduceSub,Nat.reduceBEq];with_reducible rfl))|((with_reducible first|refine QS (cfg_ok 65) Tab.none (s':=?_) ?_ ?_|refine QC (b:=?_) ?_ ?_);rotate_left 1;focus ((with_reducible refine QW ?_);simp only [Zg,seval,if_true,if_false,reduceCtorEq,Nat.reduceEqDiff];with_reducible rfl)))
    (refine Ends.mk (by simp) (rs:=?_) (ks:=?_) hres hrts ?_ ?_ ?_;rotate_left 2;(focus (simp only [Ze,Zg,seval,if_true,if_false,reduceCtorEq,Nat.reduceEqDiff,Bool.not_true];with_reducible rfl));(focus simp);focus (first|with_reducible rfl|(simp only [Zv,Bool.not_true];done)))
 ·rintro _ h
  exact h.elim
end Go.Proofs.Ytgngidchldajhaa

/- Lemmas (10). -/
import Derived.Lib.AppendZeros
import Derived.Test.YtedgfkpfhonlpaaZA1
import Derived.Test.YtedgfkpfhonlpaaZA7
import Derived.Test.YtedgfkpfhonlpaaZA8
import Derived.Test.YtedgfkpfhonlpaaZA9
set_option linter.unusedSimpArgs false
set_option linter.unusedVariables false
namespace Go.Proofs.Ytedgfkpfhonlpaa
open Go.RowKit
theorem forest_len (bs:List (List Int)):(forest bs).length = bs.length:=sortC_length bs
theorem forest_mem {bs:List (List Int)} {b:List Int}:b ∈ forest bs ↔ b ∈ bs:=sortC_mem
theorem sym_lev {t:List Int} (h:LevP t):∀ b ∈ forest (brs (canon t)),LevP b:=fun b hb => brs_lev (canon_lev h) b (forest_mem.1 hb)
theorem sym_short {t:List Int} (h:LevP t):∀ b ∈ forest (brs (canon t)),b.length + 1 ≤ t.length:=fun b hb => by
 have:=brs_short (canon_lev h) b (forest_mem.1 hb)
 rwa [canon_len h] at this
theorem sym_few {t:List Int} (h:LevP t):(forest (brs (canon t))).length + 1 ≤ t.length:=by
 rw [forest_len]
 have:=brs_few (canon_lev h)
 rwa [canon_len h] at this
theorem runTo_same {bs:List (List Int)} {k:Nat} (h:k < bs.length) (he:k = 0 ∨ ∃ h0:k - 1 < bs.length,bs[k - 1] = bs[k]):runTo bs (k + 1) = runTo bs k + 1:=by
 have e:runTo bs (k + 1) = if k = 0 ∨ bs.getD (k - 1) [] = bs.getD k [] then runTo bs k + 1 else 1:=rfl
 rw [e,if_pos]
 rcases he with he|⟨h0,he⟩
 ·exact .inl he
 ·right
  rw [List.getD_eq_getElem?_getD,List.getD_eq_getElem?_getD,List.getElem?_eq_getElem h0,List.getElem?_eq_getElem h]
  exact he
theorem runTo_new {bs:List (List Int)} {k:Nat} (h:k < bs.length) (h0:0 < k) (he:bs[k - 1] ≠ bs[k]):runTo bs (k + 1) = 1:=by
 have e:runTo bs (k + 1) = if k = 0 ∨ bs.getD (k - 1) [] = bs.getD k [] then runTo bs k + 1 else 1:=rfl
 rw [e,if_neg]
 rintro (h1|h1)
 ·omega
 ·rw [List.getD_eq_getElem?_getD,List.getD_eq_getElem?_getD,List.getElem?_eq_getElem (by omega),List.getElem?_eq_getElem h] at h1
  exact he h1
theorem symTo_succ (s:List Int→Int) (bs:List (List Int)) (k:Nat) (h:k < bs.length):symTo s bs (k + 1) = wrap64 (symTo s bs k * (runTo bs (k + 1) * s bs[k])):=by
 rw [symTo,List.getD_eq_getElem?_getD,List.getElem?_eq_getElem h];rfl
set_option maxRecDepth 100000 in
set_option maxHeartbeats 2000000 in
theorem c_impl_symmetry:∀ (n:Nat) (v:Value) (t:List Int) (w:World),Rd (RS RI) w [v] t→LevP t→t.length ≤ n→t.length ≤ 13 →
  Calls Try.prog 57 #[v] w (RetV w (.int .i64 (symF n t))):=by
 intro n
 induction n with
 | zero => intro v t w h hl hn h13;have:=hl.pos;omega
 | succ n ih =>
  intro v t w h hl hn h13
  have hca:=c_impl_canonical 13 v t w h hl h13 h13
  have HCB:Hid (∀ (w':World) (u:Value),Rd (RS RI) w' [u] (canon t)→Calls Try.prog 49 #[u] w' (RetO (RS (RS RI)) w' (brs (canon t)))):=Lib.hid (fun w' u hr => c_impl_branchesOf u (canon t) w' hr (canon_lev hl) (by rw [canon_len hl];omega))
  have HCF:Hid (∀ (w':World) (u:Value),Rd (RS (RS RI)) w' [u] (brs (canon t))→Calls Try.prog 48 #[u] w' (RetO (RS (RS RI)) w' (forest (brs (canon t))))):=Lib.hid (fun w' u hr => c_impl_forestOf u _ w' hr (by have:=sym_few hl;rw [forest_len] at this;omega) (fun b hb => by have:=sym_short hl b (forest_mem.2 hb);omega))
  have HL:=Lib.hid hl
  have IH:=Lib.hid ih
  have hfew:=sym_few hl
  obtain ⟨bs,hbs⟩:∃ bs,bs = forest (brs (canon t)):=⟨_,rfl⟩
  rw [← hbs] at hfew HCF
  have HB:=Lib.hid hbs
  clear h hl ih hbs
  go_enter Try.func57,Try.ntmps57
  go_wp2_with (first
   | (go_at_call 43;refine hca.mono ?_;rintro e w1 ⟨u1,rfl,o1,b1⟩)
   | (go_at_call 49;refine (HCB.out _ _ o1.rd).mono ?_;rintro e w2 ⟨u2,rfl,o2,b2⟩)
   | (go_at_call 48;refine (HCF.out _ _ o2.rd).mono ?_;rintro e w3 ⟨u3,rfl,o3,b3⟩;obtain ⟨oa,cap,rfl,l1,l2⟩:=o3.val))
  have hsz1:=b1.size
  have hsz2:=b2.size
  have hb3:Below w.heap.size w w3:=(b1.trans (b2.mono hsz1)).trans (b3.mono (Nat.le_trans hsz1 hsz2))
  have hsz3:=hb3.size
  obtain ⟨oa1,cap1,L⟩:=o3.rd.lists
  have hval:=L.val
  simp only [Value.slice.injEq,true_and] at hval
  obtain ⟨rfl,rfl⟩:=hval
  have HLs:=Lib.hid L
  clear L o1 o2 o3 b1 b2 b3 hca HCB HCF
  go_loopw [3,5,14] (fun o s i wr => ∃ k:Nat,k ≤ bs.length∧i = .int .i64 k∧s = .int .i64 (runTo bs k)∧o = .int .i64 (symTo (symF n) bs k)∧Below w3.heap.size w3 wr) (fun _ _ i _ => bs.length - (intOf i).toNat)
  case atStart => exact ⟨0,Nat.zero_le _,rfl,rfl,rfl,Below.refl _ _⟩
  case round =>
   obtain ⟨k,hk,rfl,rfl,rfl,hbel⟩:=hrel
   by_cases hlt:k < bs.length
   ·obtain ⟨b,off,rfl,hb,hc⟩:=HLs.out.get hlt
    obtain ⟨oi,ci,g1,hrd,q1,q2⟩:=hc k hlt
    have g2:wr.cell? ⟨b,off + k,none⟩ = some (.slice oi bs[k].length ci):=(hbel.cell (p:=⟨b,off + k,none⟩) hb).trans g1
    have hmem:bs[k] ∈ forest (brs (canon t)):=by rw [← HB.out];exact List.getElem_mem hlt
    have hshort:=sym_short HL.out _ hmem
    have hrec:Hid (∀ w',Below w3.heap.size w3 w'→Calls Try.prog 57 #[.slice oi bs[k].length ci] w' (RetV w' (.int .i64 (symF n bs[k])))):=Lib.hid (fun w' hb' => IH.out _ bs[k] w' (hrd.below hb' (Nat.le_refl _)) (sym_lev HL.out _ hmem) (by omega) (by omega))
    have hnx:=symTo_succ (symF n) bs k hlt
    obtain ⟨r1,r2⟩:=runTo_bd bs k
    obtain ⟨q,hq⟩:∃ q,q = symTo (symF n) bs k:=⟨_,rfl⟩
    obtain ⟨y,hy⟩:∃ y,y = symF n bs[k]:=⟨_,rfl⟩
    rw [← hq,← hy] at hnx
    rw [← hy] at hrec
    have hnew:∀ s,runTo bs (k + 1) = s→Hid (symTo (symF n) bs (k + 1) = wrap64 (q * wrap64 (s * y))):=fun s e => Lib.hid (by rw [hnx,e,wrap64_mul_r])
    have HNEW:=Lib.hid hnew
    have hrs:=runTo_bd bs (k + 1)
    have hk0:k = 0→runTo bs (k + 1) = runTo bs k + 1:=fun e => runTo_same hlt (.inl e)
    have HK0:=Lib.hid hk0
    obtain ⟨s0,hs0⟩:∃ s0,s0 = runTo bs k:=⟨_,rfl⟩
    rw [← hs0] at r1 r2 HK0
    rw [← hq,← hs0]
    have hw1:IntKind.i64.wrap (s0 + 1) = s0 + 1:=IntWalk.i64_in _ (by omega)
    by_cases hkz:k = 0
    ·have hrun:=HK0.out hkz
     have HN:=HNEW.out _ hrun
     have HRUN:=Lib.hid hrun
     subst hkz
     obtain ⟨xl,hxl⟩:∃ xl,xl = bs[0].length:=⟨_,rfl⟩
     rw [← hxl] at g2 q1 hrec
     rw [Nat.add_zero] at g2
     obtain ⟨g,hg⟩:∃ g,wrap64 ((s0 + 1) * y) = g:=⟨_,rfl⟩
     obtain ⟨g',hg'⟩:∃ g',wrap64 (q * g) = g':=⟨_,rfl⟩
     rw [hg,hg'] at HN
     have hw2:IntKind.i64.wrap ((s0 + 1) * y) = g:=(IntWalk.i64_left _).trans hg
     have hw3:IntKind.i64.wrap (q * g) = g':=(IntWalk.i64_left _).trans hg'
     clear hc g1 hrd hnx hq hy hxl hmem hnew hrs hk0 hs0 hrun
     go_wp2_with (go_at_call 57;refine (hrec.out _ hbel).mono ?_;rintro e w5 ⟨rfl,b5⟩)
     have hb5:Below w3.heap.size w3 w5:=hbel.trans (b5.mono hbel.size)
     go_roundw
     case rel => exact ⟨1,by omega,by go_num,by simp only [HRUN.out],by simp only [HN.out],hb5⟩
     case measure => simp [intOf];omega
    ·obtain ⟨kp,rfl⟩:∃ kp,k = kp + 1:=⟨k - 1,by omega⟩
     obtain ⟨op,cp,g1p,hrdp,q1p,q2p⟩:=hc kp (by omega)
     have g2p:wr.cell? ⟨b,off + kp,none⟩ = some (.slice op bs[kp].length cp):=(hbel.cell (p:=⟨b,off + kp,none⟩) hb).trans g1p
     have HEQ:Hid (Calls Try.prog 47 #[.slice op bs[kp].length cp,.slice oi bs[kp + 1].length ci] wr (RetQ wr (.bool (decide (bs[kp] = bs[kp + 1]))))):=Lib.hid (c_slicesEqual _ _ _ _ wr (hrdp.below hbel (Nat.le_refl _)) (hrd.below hbel (Nat.le_refl _)))
     have hidx:(((kp + 1:Nat):Int) - 1) = (kp:Int):=by omega
     have hgt:decide (((kp + 1:Nat):Int) > 0) = true:=decide_eq_true (by omega)
     have hgt2:(0:Int) < ((kp + 1:Nat):Int):=by omega
     have ip1:(0:Int) ≤ (kp:Int):=by omega
     have ip2:(kp:Int) < (bs.length:Int):=by omega
     have ip3:IntKind.i64.wrap (kp:Int) = (kp:Int):=IntWalk.i64_in _ (by omega)
     by_cases hsame:bs[kp] = bs[kp + 1]
     ·have hrun:=runTo_same hlt (.inr ⟨by omega,by simpa using hsame⟩)
      have HN:=HNEW.out _ hrun
      rw [← hs0] at HN hrun
      have HRUN:=Lib.hid hrun
      have hd:decide (bs[kp] = bs[kp + 1]) = true:=decide_eq_true hsame
      rw [hd] at HEQ
      obtain ⟨xl,hxl⟩:∃ xl,xl = bs[kp + 1].length:=⟨_,rfl⟩
      obtain ⟨xp,hxp⟩:∃ xp,xp = bs[kp].length:=⟨_,rfl⟩
      rw [← hxl] at g2 q1 hrec HEQ
      rw [← hxp] at g2p q1p HEQ
      obtain ⟨g,hg⟩:∃ g,wrap64 ((s0 + 1) * y) = g:=⟨_,rfl⟩
      obtain ⟨g',hg'⟩:∃ g',wrap64 (q * g) = g':=⟨_,rfl⟩
      rw [hg,hg'] at HN
      have hw2:IntKind.i64.wrap ((s0 + 1) * y) = g:=(IntWalk.i64_left _).trans hg
      have hw3:IntKind.i64.wrap (q * g) = g':=(IntWalk.i64_left _).trans hg'
      clear hc g1 hrd hnx hq hy hxl hmem hnew hrs hk0 hs0 hrun hd hsame hxp g1p hrdp
      go_wp2_with (first
       | (go_at_call 57;refine (hrec.out _ (hbel.trans (Below.drewN _ _ _))).mono ?_;rintro e w5 ⟨rfl,b5⟩)
       | (go_at_call 47;refine HEQ.out.mono ?_;rintro e w4 ⟨rfl,nd,rfl⟩))
      have hb5:Below w3.heap.size w3 w5:=(hbel.trans (Below.drewN _ _ _)).trans (b5.mono hbel.size)
      go_roundw
      case rel => exact ⟨kp + 1 + 1,by omega,by go_num,by simp only [HRUN.out],by simp only [HN.out],hb5⟩
      case measure => simp [intOf];omega
     ·have hrun:=runTo_new hlt (by omega) (by simpa using hsame)
      have HN:=HNEW.out _ hrun
      have HRUN:=Lib.hid hrun
      have hd:decide (bs[kp] = bs[kp + 1]) = false:=decide_eq_false hsame
      rw [hd] at HEQ
      obtain ⟨xl,hxl⟩:∃ xl,xl = bs[kp + 1].length:=⟨_,rfl⟩
      obtain ⟨xp,hxp⟩:∃ xp,xp = bs[kp].length:=⟨_,rfl⟩
      rw [← hxl] at g2 q1 hrec HEQ
      rw [← hxp] at g2p q1p HEQ
      obtain ⟨g,hg⟩:∃ g,wrap64 y = g:=⟨_,rfl⟩
      obtain ⟨g',hg'⟩:∃ g',wrap64 (q * g) = g':=⟨_,rfl⟩
      rw [Int.one_mul,hg,hg'] at HN
      have hw2:IntKind.i64.wrap y = g:=(IntWalk.i64_left _).trans hg
      have hw3:IntKind.i64.wrap (q * g) = g':=(IntWalk.i64_left _).trans hg'
      clear hc g1 hrd hnx hq hy hxl hmem hnew hrs hk0 hs0 hrun hd hsame hxp g1p hrdp
      go_wp2_with (first
       | (go_at_call 57;refine (hrec.out _ (hbel.trans (Below.drewN _ _ _))).mono ?_;rintro e w5 ⟨rfl,b5⟩)
       | (go_at_call 47;refine HEQ.out.mono ?_;rintro e w4 ⟨rfl,nd,rfl⟩))
      have hb5:Below w3.heap.size w3 w5:=(hbel.trans (Below.drewN _ _ _)).trans (b5.mono hbel.size)
      go_roundw
      case rel => exact ⟨kp + 1 + 1,by omega,by go_num,by simp only [HRUN.out],by simp only [HN.out],hb5⟩
      case measure => simp [intOf];omega
   ·have hfin:symTo (symF n) bs k = symF (n + 1) t:=by
     have e:k = bs.length:=by omega
     rw [e,HB.out];rfl
    rw [hfin]
    go_wp2_with fail
    go_ret
    exact ⟨rfl,hb3.trans (hbel.mono hsz3)⟩
end Go.Proofs.Ytedgfkpfhonlpaa
namespace Go.Proofs.Ytedgfkpfhonlpaa
set_option maxRecDepth 100000 in
theorem labPos_all:lists8.all (fun t => decide (0 < symF 9 t) && decide (0 < densF 9 t)) = true:=by decide +kernel
theorem labPos {t:List Int} (h:lev8 t = true):0 < symF 9 t∧0 < densF 9 t:=by
 have:=lev8_all labPos_all h
 simpa using this
end Go.Proofs.Ytedgfkpfhonlpaa
namespace Go.Proofs.Ytedgfkpfhonlpaa
open Go.RowKit
theorem symF_in (n:Nat) (t:List Int):In64 (symF n t):=by
 cases n with
 | zero => exact ⟨by simp [symF],by simp [symF]⟩
 | succ n =>
  unfold symF
  generalize forest (brs (canon t)) = bs
  cases bs.length with
  | zero => exact ⟨by simp [symTo],by simp [symTo]⟩
  | succ k => exact in64_wrap _
def labOf (t:List Int):Int × Int:=if lev8 t = true then (wrap64 ((wrap64 ((facW t.length).tdiv (symF 9 t))).tdiv (densF 9 t)),0) else (0,1)
set_option maxRecDepth 100000 in
set_option maxHeartbeats 2000000 in
theorem k_impl_LabellingsOf (v:Value) (t:List Int) (w:World) (h:Rd (RS RI) w [v] t) :
  Calls Try.prog 24 #[v] w (RetV w (.tuple #[.int .i64 (labOf t).1,.int .i64 (labOf t).2])):=by
 have hlv:=c_impl_IsLevels v t w h
 by_cases h8:lev8 t = true
 ·have hl:=lev8_lev h8
  have hl8:=lev8_len h8
  obtain ⟨p1,p2⟩:=labPos h8
  have HF:Hid (∀ w',Below w.heap.size w w'→Calls Try.prog 60 #[v] w' fun e w'' => e = .returned (.int .i64 t.length)∧Below w.heap.size w w''):=Lib.hid (fun w' hb => (c_impl_length v t w' (h.below hb (Nat.le_refl _))).mono (by rintro e w'' ⟨rfl,rfl⟩;exact ⟨rfl,hb⟩))
  have HG:Hid (∀ w',Below w.heap.size w w'→Calls Try.prog 59 #[.int .i64 t.length] w' fun e w'' => e = .returned (.int .i64 (facW t.length))∧Below w.heap.size w w''):=Lib.hid (fun w' hb => (c_impl_factorial t.length (by omega) w').mono (by rintro e w'' ⟨rfl,rfl⟩;exact ⟨rfl,hb⟩))
  have HS:Hid (∀ w',Below w.heap.size w w'→Calls Try.prog 57 #[v] w' fun e w'' => e = .returned (.int .i64 (symF 9 t))∧Below w.heap.size w w''):=Lib.hid (fun w' hb => (c_impl_symmetry 9 v t w' (h.below hb (Nat.le_refl _)) hl (by omega) (by omega)).mono (by rintro e w'' ⟨rfl,b⟩;exact ⟨rfl,hb.trans (b.mono hb.size)⟩))
  have HD:Hid (∀ w',Below w.heap.size w w'→Calls Try.prog 58 #[v] w' fun e w'' => e = .returned (.int .i64 (densF 9 t))∧Below w.heap.size w w''):=Lib.hid (fun w' hb => (c_impl_density 9 v t w' (h.below hb (Nat.le_refl _)) hl (by omega) (by omega)).mono (by rintro e w'' ⟨rfl,b⟩;exact ⟨rfl,hb.trans (b.mono hb.size)⟩))
  have hr:Hid (labOf t = (wrap64 ((wrap64 ((facW t.length).tdiv (symF 9 t))).tdiv (densF 9 t)),0)):=Lib.hid (by unfold labOf;rw [if_pos h8])
  have hsb:=symF_in 9 t
  obtain ⟨f,hf⟩:∃ f,f = facW t.length:=⟨_,rfl⟩
  obtain ⟨s,hs⟩:∃ s,s = symF 9 t:=⟨_,rfl⟩
  obtain ⟨d,hd⟩:∃ d,d = densF 9 t:=⟨_,rfl⟩
  rw [← hf] at HG hr
  rw [← hs] at HS hr p1
  rw [← hd] at HD hr p2
  rw [h8] at hlv
  have e1:(s == 0) = false:=by simp;omega
  have e2:(d == 0) = false:=by simp;omega
  have e3:¬ s = 0:=by omega
  have e4:¬ d = 0:=by omega
  clear h hf hs hd
  go_enter Try.func24,Try.ntmps24
  go_wp2_with (go_at_call 9;refine hlv.mono ?_;rintro e w' ⟨rfl,rfl⟩)
  go_region_with (first
   | (go_at_call 60;refine (HF.out _ (by first|assumption|exact Below.refl _ _|exact Below.drewN _ _ 1|exact Below.trans ‹_› (Below.drewN _ _ 1))).mono ?_;rintro e wL ⟨rfl,bL⟩)
   | (go_at_call 59;refine (HG.out _ (by first|assumption|exact Below.refl _ _|exact Below.drewN _ _ 1|exact Below.trans ‹_› (Below.drewN _ _ 1))).mono ?_;rintro e wF ⟨rfl,bF⟩)
   | (go_at_call 57;refine (HS.out _ (by first|assumption|exact Below.refl _ _|exact Below.drewN _ _ 1|exact Below.trans ‹_› (Below.drewN _ _ 1))).mono ?_;rintro e wS ⟨rfl,bS⟩)
   | (go_at_call 58;refine (HD.out _ (by first|assumption|exact Below.refl _ _|exact Below.drewN _ _ 1|exact Below.trans ‹_› (Below.drewN _ _ 1))).mono ?_;rintro e wD ⟨rfl,bD⟩))
  all_goals
   go_wp2_with fail
   go_ret2
   refine ⟨?_,by assumption⟩
   rw [hr.out]
   simp only [IntWalk.i64_left]
   rfl
 ·have h8':lev8 t = false:=by simpa using h8
  have hr:Hid (labOf t = (0,1)):=Lib.hid (by unfold labOf;rw [if_neg h8])
  rw [h8'] at hlv
  go_enter Try.func24,Try.ntmps24
  go_wp2_with (go_at_call 9;refine hlv.mono ?_;rintro e w' ⟨rfl,rfl⟩)
  go_ret2
  exact ⟨by rw [hr.out];rfl,Below.refl _ _⟩
end Go.Proofs.Ytedgfkpfhonlpaa
namespace Go.Proofs.Ytedgfkpfhonlpaa
open Go.RowKit
theorem getD_ltn {l:List Int} {i:Nat} (h:i < l.length):l.getD i 0 = l[i]:=by rw [List.getD_eq_getElem?_getD,List.getElem?_eq_getElem h];rfl
theorem mapI_get {l:List Int} {i:Nat} (h:i < l.length):(l.map eI)[i]? = some [.int (l.getD i 0)]:=by rw [List.getElem?_map,List.getElem?_eq_getElem h,getD_ltn h];rfl
set_option maxHeartbeats 4000000 in
theorem a_likeInts (xs ys:List Int) (hsz:xs.length ≤ 1000000000):AFn Try.prog 12 [eL xs,eL ys] (· = [.val (.bool (decide (xs = ys)))]):=by
 have hx:(xs.map eI).length = xs.length:=List.length_map _
 have hy:(ys.map eI).length = ys.length:=List.length_map _
 by_cases hl:xs.length = ys.length
 rotate_left
 ·have hne:xs ≠ ys:=fun e => hl (by rw [e])
  have b:(((xs.length:Nat):Int) != ((ys.length:Nat):Int)) = true:=bne_iff_ne.2 (by omega)
  rw [decide_eq_false hne]
  refine AFn.of_runs (cfg_ok 26) Try.func12 rfl rfl rfl (by simp only [List.length_cons,List.length_nil];decide) ?_
  have hres:Try.f12.results.toList = [.tmp 4]:=rfl
  have hrts:Try.f12.resultTypes.toList = [4]:=rfl
  simp only [argRegs,argAV1,eL,eI,eLL,eB,Nat.zero_add,Nat.reduceAdd]
  intro M
  refine RunK.of ?_
  repeat' (first|with_reducible (first|refine Q1 ?_|refine Q2 ?_|refine Q3 ?_|refine Q4 ?_|refine Q5 ?_|refine Q6 ?_|refine Q7 ?_|refine Q8 ?_|refine Q9 ?_|refine Qa ?_|refine Qb ?_|refine Qc ?_|refine Qd ?_|refine Qe ?_|refine Qf ?_)|((with_reducible refine Qo ?_ ?_);focus rfl)|((with_reducible first|refine QT 6 (l:=?_) ?_ ?_|refine QF 6 (l:=?_) ?_ ?_);rotate_left 1;focus (simp only [Zu,Nat.reduceSub,Nat.reduceBEq];with_reducible rfl))|((with_reducible first|refine QS (cfg_ok 26) Tab.none (s':=?_) ?_ ?_|refine QC (b:=?_) ?_ ?_);rotate_left 1;focus ((with_reducible refine QW ?_);simp only [Zg,seval,if_true,if_false,reduceCtorEq,Nat.reduceEqDiff,b,hx,hy];with_reducible rfl))|((with_reducible refine QD (cfg_ok 26) Tab.none mixed_ok (tr:=?_) (s':=?_) ?_ ?_ ?_);rotate_left 2;(focus ((with_reducible refine QW ?_);simp only [Zg,Zd,seval,if_true,if_false,reduceCtorEq,Nat.reduceEqDiff,b,hx,hy];with_reducible rfl));focus ((with_reducible refine QK ?_);simp only [Zk];kernel_rfl)))
  (refine Ends.mk (by simp) (rs:=?_) (ks:=?_) hres hrts ?_ ?_ ?_;rotate_left 2;(focus (simp only [Ze,Zg,seval,if_true,if_false,reduceCtorEq,Nat.reduceEqDiff];with_reducible rfl));(focus simp);focus (first|with_reducible rfl|(simp only [Zv];done)))
 have b:(((ys.length:Nat):Int) != ((ys.length:Nat):Int)) = false:=by simp
 refine AFn.of_runs (cfg_ok 26) Try.func12 rfl rfl rfl (by simp only [List.length_cons,List.length_nil];decide) ?_
 have hres:Try.f12.results.toList = [.tmp 4]:=rfl
 have hrts:Try.f12.resultTypes.toList = [4]:=rfl
 simp only [argRegs,argAV1,eL,eI,eLL,eB,Nat.zero_add,Nat.reduceAdd]
 intro M
 refine RunK.of ?_
 repeat' (first|with_reducible (first|refine Q1 ?_|refine Q2 ?_|refine Q3 ?_|refine Q4 ?_|refine Q5 ?_|refine Q6 ?_|refine Q7 ?_|refine Q8 ?_|refine Q9 ?_|refine Qa ?_|refine Qb ?_|refine Qc ?_|refine Qd ?_|refine Qe ?_|refine Qf ?_)|((with_reducible refine Qo ?_ ?_);focus rfl)|((with_reducible first|refine QT 6 (l:=?_) ?_ ?_|refine QF 6 (l:=?_) ?_ ?_);rotate_left 1;focus (simp only [Zu,Nat.reduceSub,Nat.reduceBEq];with_reducible rfl))|((with_reducible first|refine QS (cfg_ok 26) Tab.none (s':=?_) ?_ ?_|refine QC (b:=?_) ?_ ?_);rotate_left 1;focus ((with_reducible refine QW ?_);simp only [Zg,seval,if_true,if_false,reduceCtorEq,Nat.reduceEqDiff,b,hx,hy,hl];with_reducible rfl))|((with_reducible refine QD (cfg_ok 26) Tab.none mixed_ok (tr:=?_) (s':=?_) ?_ ?_ ?_);rotate_left 2;(focus ((with_reducible refine QW ?_);simp only [Zg,Zd,seval,if_true,if_false,reduceCtorEq,Nat.reduceEqDiff,b,hx,hy,hl];with_reducible rfl));focus ((with_reducible refine QK ?_);simp only [Zk];kernel_rfl)))
 refine RunK.loop (β:=Nat) (γ:=Unit) (fun i => ⟨[(0,.c (.val (.sl 1 (xs.map eI)))),(1,.c (.val (.sl 1 (ys.map eI)))),(5,.c (.val (.int i)))],[]⟩) (fun i => i ≤ xs.length∧xs.take i = ys.take i) (fun i => xs.length - i)
  (fun _ => ⟨[],[]⟩) (fun _ => xs = ys) 0 ⟨Nat.zero_le _,rfl⟩ ?_ ?_ ?_
 ·(repeat' (first|with_reducible refine Qn|((with_reducible refine Qr ?_ ?_);focus (first|with_reducible rfl|(simp only [Zz,Nat.reduceBEq,Int.natCast_zero];done)|rfl))|((with_reducible refine Qj (o':=?_) ?_ ?_ ?_);rotate_left 1;focus rfl)|((with_reducible refine Qw ?_ ?_);(focus (first|with_reducible rfl|(simp only [Zv,Int.natCast_zero];done)));focus (first|exact id|exact (fun h => nomatch h)|exact (fun _ => rfl)))))
 ·rintro i ⟨hi,ht⟩
  have hw:=w64_succ (n:=i) (by omega)
  by_cases h:i < xs.length
  ·have i1:((i:Int) < (ys.length:Int)) = True:=eq_true (by omega)
   have i2:((0:Int) ≤ (i:Int)) = True:=eq_true (by omega)
   have g1:=mapI_get h
   have g2:=mapI_get (l:=ys) (i:=i) (by omega)
   by_cases he:xs.getD i 0 = ys.getD i 0
   ·have e0:(xs.getD i 0 != ys.getD i 0) = false:=by rw [he];simp only [bne_self_eq_false]
    repeat' (first|with_reducible (first|refine Q1 ?_|refine Q2 ?_|refine Q3 ?_|refine Q4 ?_|refine Q5 ?_|refine Q6 ?_|refine Q7 ?_|refine Q8 ?_|refine Q9 ?_|refine Qa ?_|refine Qb ?_|refine Qc ?_|refine Qd ?_|refine Qe ?_|refine Qf ?_)|((with_reducible refine Qo ?_ ?_);focus rfl)|((with_reducible first|refine QT 6 (l:=?_) ?_ ?_|refine QF 6 (l:=?_) ?_ ?_);rotate_left 1;focus (simp only [Zu,Nat.reduceSub,Nat.reduceBEq];with_reducible rfl))|((with_reducible first|refine QS (cfg_ok 26) Tab.none (s':=?_) ?_ ?_|refine QC (b:=?_) ?_ ?_);rotate_left 1;focus ((with_reducible refine QW ?_);simp only [Zg,seval,if_true,if_false,reduceCtorEq,Nat.reduceEqDiff,i1,i2,g1,g2,hx,hy,hl,hw,e0,Int.toNat_natCast];with_reducible rfl))|((with_reducible refine QD (cfg_ok 26) Tab.none mixed_ok (tr:=?_) (s':=?_) ?_ ?_ ?_);rotate_left 2;(focus ((with_reducible refine QW ?_);simp only [Zg,Zd,seval,if_true,if_false,reduceCtorEq,Nat.reduceEqDiff,i1,i2,g1,g2,hx,hy,hl,hw,e0,Int.toNat_natCast];with_reducible rfl));focus ((with_reducible refine QK ?_);simp only [Zk];kernel_rfl)))
    refine roundK.on (i + 1) ⟨⟨h,?_⟩,by omega⟩ ?_
    ·rw [getD_ltn h,getD_ltn (by omega)] at he
     rw [List.take_succ_eq_append_getElem h,List.take_succ_eq_append_getElem (by omega),ht,he]
    (repeat' (first|with_reducible refine Qn|((with_reducible refine Qr ?_ ?_);focus (first|with_reducible rfl|(simp only [Zz,Nat.reduceBEq];done)|rfl))|((with_reducible refine Qj (o':=?_) ?_ ?_ ?_);rotate_left 1;focus rfl)|((with_reducible refine Qw ?_ ?_);(focus (first|with_reducible rfl|(simp only [Zv];done)));focus (first|exact id|exact (fun h => nomatch h)|exact (fun _ => rfl)))))
   ·have e0:(xs.getD i 0 != ys.getD i 0) = true:=bne_iff_ne.2 he
    have hne:xs ≠ ys:=fun e => he (by rw [e])
    rw [decide_eq_false hne]
    repeat' (first|with_reducible (first|refine Q1 ?_|refine Q2 ?_|refine Q3 ?_|refine Q4 ?_|refine Q5 ?_|refine Q6 ?_|refine Q7 ?_|refine Q8 ?_|refine Q9 ?_|refine Qa ?_|refine Qb ?_|refine Qc ?_|refine Qd ?_|refine Qe ?_|refine Qf ?_)|((with_reducible refine Qo ?_ ?_);focus rfl)|((with_reducible first|refine QT 6 (l:=?_) ?_ ?_|refine QF 6 (l:=?_) ?_ ?_);rotate_left 1;focus (simp only [Zu,Nat.reduceSub,Nat.reduceBEq];with_reducible rfl))|((with_reducible first|refine QS (cfg_ok 26) Tab.none (s':=?_) ?_ ?_|refine QC (b:=?_) ?_ ?_);rotate_left 1;focus ((with_reducible refine QW ?_);simp only [Zg,seval,if_true,if_false,reduceCtorEq,Nat.reduceEqDiff,i1,i2,g1,g2,hx,hy,hl,hw,e0,Int.toNat_natCast];with_reducible rfl))|((with_reducible refine QD (cfg_ok 26) Tab.none mixed_ok (tr:=?_) (s':=?_) ?_ ?_ ?_);rotate_left 2;(focus ((with_reducible refine QW ?_);simp only [Zg,Zd,seval,if_true,if_false,reduceCtorEq,Nat.reduceEqDiff,i1,i2,g1,g2,hx,hy,hl,hw,e0,Int.toNat_natCast];with_reducible rfl));focus ((with_reducible refine QK ?_);simp only [Zk];kernel_rfl)))
    refine roundK.ret ?_
    repeat' (first|with_reducible (first|refine Q1 ?_|refine Q2 ?_|refine Q3 ?_|refine Q4 ?_|refine Q5 ?_|refine Q6 ?_|refine Q7 ?_|refine Q8 ?_|refine Q9 ?_|refine Qa ?_|refine Qb ?_|refine Qc ?_|refine Qd ?_|refine Qe ?_|refine Qf ?_)|((with_reducible refine Qo ?_ ?_);focus rfl)|((with_reducible first|refine QT 6 (l:=?_) ?_ ?_|refine QF 6 (l:=?_) ?_ ?_);rotate_left 1;focus (simp only [Zu,Nat.reduceSub,Nat.reduceBEq];with_reducible rfl))|((with_reducible first|refine QS (cfg_ok 26) Tab.none (s':=?_) ?_ ?_|refine QC (b:=?_) ?_ ?_);rotate_left 1;focus ((with_reducible refine QW ?_);simp only [Zg,seval,if_true,if_false,reduceCtorEq,Nat.reduceEqDiff];with_reducible rfl))|((with_reducible refine QD (cfg_ok 26) Tab.none mixed_ok (tr:=?_) (s':=?_) ?_ ?_ ?_);rotate_left 2;(focus ((with_reducible refine QW ?_);simp only [Zg,Zd,seval,if_true,if_false,reduceCtorEq,Nat.reduceEqDiff];with_reducible rfl));focus ((with_reducible refine QK ?_);simp only [Zk];kernel_rfl)))
    (refine Ends.mk (by simp) (rs:=?_) (ks:=?_) hres hrts ?_ ?_ ?_;rotate_left 2;(focus (simp only [Ze,Zg,seval,if_true,if_false,reduceCtorEq,Nat.reduceEqDiff];with_reducible rfl));(focus simp);focus (first|with_reducible rfl|(simp only [Zv];done)))
  ·have i1:((i:Int) < (ys.length:Int)) = False:=eq_false (by omega)
   repeat' (first|with_reducible (first|refine Q1 ?_|refine Q2 ?_|refine Q3 ?_|refine Q4 ?_|refine Q5 ?_|refine Q6 ?_|refine Q7 ?_|refine Q8 ?_|refine Q9 ?_|refine Qa ?_|refine Qb ?_|refine Qc ?_|refine Qd ?_|refine Qe ?_|refine Qf ?_)|((with_reducible refine Qo ?_ ?_);focus rfl)|((with_reducible first|refine QT 6 (l:=?_) ?_ ?_|refine QF 6 (l:=?_) ?_ ?_);rotate_left 1;focus (simp only [Zu,Nat.reduceSub,Nat.reduceBEq];with_reducible rfl))|((with_reducible first|refine QS (cfg_ok 26) Tab.none (s':=?_) ?_ ?_|refine QC (b:=?_) ?_ ?_);rotate_left 1;focus ((with_reducible refine QW ?_);simp only [Zg,seval,if_true,if_false,reduceCtorEq,Nat.reduceEqDiff,i1,hx,hl];with_reducible rfl))|((with_reducible refine QD (cfg_ok 26) Tab.none mixed_ok (tr:=?_) (s':=?_) ?_ ?_ ?_);rotate_left 2;(focus ((with_reducible refine QW ?_);simp only [Zg,Zd,seval,if_true,if_false,reduceCtorEq,Nat.reduceEqDiff,i1,hx,hl];with_reducible rfl));focus ((with_reducible refine QK ?_);simp only [Zk];kernel_rfl)))
   refine roundK.out () ?_ ?_
   ·rw [List.take_of_length_le (by omega),List.take_of_length_le (by omega)] at ht
    exact ht
   (repeat' (first|with_reducible refine Qn|((with_reducible refine Qr ?_ ?_);focus (first|with_reducible rfl|(simp only [Zz,Nat.reduceBEq];done)|rfl))|((with_reducible refine Qj (o':=?_) ?_ ?_ ?_);rotate_left 1;focus rfl)|((with_reducible refine Qw ?_ ?_);(focus (first|with_reducible rfl|(simp only [Zv];done)));focus (first|exact id|exact (fun h => nomatch h)|exact (fun _ => rfl)))))
 ·intro _ he
  rw [decide_eq_true he]
  repeat' (first|with_reducible (first|refine Q1 ?_|refine Q2 ?_|refine Q3 ?_|refine Q4 ?_|refine Q5 ?_|refine Q6 ?_|refine Q7 ?_|refine Q8 ?_|refine Q9 ?_|refine Qa ?_|refine Qb ?_|refine Qc ?_|refine Qd ?_|refine Qe ?_|refine Qf ?_)|((with_reducible refine Qo ?_ ?_);focus rfl)|((with_reducible first|refine QT 6 (l:=?_) ?_ ?_|refine QF 6 (l:=?_) ?_ ?_);rotate_left 1;focus (simp only [Zu,Nat.reduceSub,Nat.reduceBEq];with_reducible rfl))|((with_reducible first|refine QS (cfg_ok 26) Tab.none (s':=?_) ?_ ?_|refine QC (b:=?_) ?_ ?_);rotate_left 1;focus ((with_reducible refine QW ?_);simp only [Zg,seval,if_true,if_false,reduceCtorEq,Nat.reduceEqDiff];with_reducible rfl))|((with_reducible refine QD (cfg_ok 26) Tab.none mixed_ok (tr:=?_) (s':=?_) ?_ ?_ ?_);rotate_left 2;(focus ((with_reducible refine QW ?_);simp only [Zg,Zd,seval,if_true,if_false,reduceCtorEq,Nat.reduceEqDiff];with_reducible rfl));focus ((with_reducible refine QK ?_);simp only [Zk];kernel_rfl)))
  (refine Ends.mk (by simp) (rs:=?_) (ks:=?_) hres hrts ?_ ?_ ?_;rotate_left 2;(focus (simp only [Ze,Zg,seval,if_true,if_false,reduceCtorEq,Nat.reduceEqDiff];with_reducible rfl));(focus simp);focus (first|with_reducible rfl|(simp only [Zv];done)))
theorem a_LabellingsOf (t:List Int):AFn Try.prog 24 [eL t] (· = [.val (.int (labOf t).1),.val (.int (labOf t).2)]):=by
 have hb:In64 (labOf t).1∧In64 (labOf t).2:=by
  unfold labOf
  split
  ·exact ⟨by show In64 (wrap64 _);unfold In64 wrap64;omega,by unfold In64;omega⟩
  ·exact ⟨by unfold In64;omega,by unfold In64;omega⟩
 exact AFn.of_v2 (enters_of Try.func24 rfl rfl) (fun _ _ => rdV_int.2 ⟨rfl,hb.1⟩) (fun _ _ => rdV_int.2 ⟨rfl,hb.2⟩) (fun w A vs h => by
  obtain ⟨v,rfl,hr⟩:=tab_one h
  exact k_impl_LabellingsOf v t w hr)
def facZ:Nat→Int
 | 0 => 1
 | n + 1 => facZ n * ((n + 1:Nat):Int)
theorem facZ_bd:∀ n,n ≤ 8→1 ≤ facZ n∧facZ n ≤ 40320:=by decide
set_option maxHeartbeats 4000000 in
theorem a_fact9 (n:Nat) (hn:n ≤ 8):AFn Try.prog 25 [eI n] (· = [.val (.int (facZ n))]):=by
 refine AFn.of_runs (cfg_ok 14) Try.func25 rfl rfl rfl (by simp only [List.length_cons,List.length_nil];decide) ?_
 have hres:Try.f25.results.toList = [.tmp 2]:=rfl
 have hrts:Try.f25.resultTypes.toList = [2]:=rfl
 simp only [argRegs,argAV1,eL,eI,eLL,eB,Nat.zero_add,Nat.reduceAdd]
 intro M
 refine RunK.of ?_
 repeat' (first|with_reducible (first|refine Q1 ?_|refine Q2 ?_|refine Q3 ?_|refine Q4 ?_|refine Q5 ?_|refine Q6 ?_|refine Q7 ?_|refine Q8 ?_|refine Q9 ?_|refine Qa ?_|refine Qb ?_|refine Qc ?_|refine Qd ?_|refine Qe ?_|refine Qf ?_)|((with_reducible refine Qo ?_ ?_);focus rfl)|((with_reducible first|refine QT 5 (l:=?_) ?_ ?_|refine QF 5 (l:=?_) ?_ ?_);rotate_left 1;focus (simp only [Zu,Nat.reduceSub,Nat.reduceBEq];with_reducible rfl))|((with_reducible first|refine QS (cfg_ok 14) Tab.none (s':=?_) ?_ ?_|refine QC (b:=?_) ?_ ?_);rotate_left 1;focus ((with_reducible refine QW ?_);simp only [Zg,seval,if_true,if_false,reduceCtorEq,Nat.reduceEqDiff];with_reducible rfl)))
 refine RunK.loop (β:=Nat) (γ:=Unit) (fun k => ⟨[(0,.c (.val (.int n))),(3,.c (.val (.int (facZ (k + 1))))),(4,.c (.val (.int ((k + 2:Nat):Int))))],[]⟩) (fun k => k + 1 ≤ n ∨ k = 0) (fun k => n - k)
  (fun _ => ⟨[(3,.c (.val (.int (facZ n))))],[]⟩) (fun _ => True) 0 (.inr rfl) ?_ ?_ ?_
 ·(repeat' (first|with_reducible refine Qn|((with_reducible refine Qr ?_ ?_);focus (first|with_reducible rfl|(simp only [Zz,Nat.reduceBEq,show facZ (0 + 1) = 1 from rfl];done)|rfl))|((with_reducible refine Qj (o':=?_) ?_ ?_ ?_);rotate_left 1;focus rfl)|((with_reducible refine Qw ?_ ?_);(focus (first|with_reducible rfl|(simp only [Zv,show facZ (0 + 1) = 1 from rfl];done)));focus (first|exact id|exact (fun h => nomatch h)|exact (fun _ => rfl)))))
 ·intro k hk
  have hw:=w64_succ (n:=k + 2) (by have:k + 1 ≤ n ∨ k = 0:=hk;omega)
  by_cases h:k + 2 ≤ n
  ·have i1:(((k + 2:Nat):Int) ≤ (n:Int)) = True:=eq_true (by omega)
   have hb:=facZ_bd (k + 2) (by omega)
   have e:facZ (k + 2) = facZ (k + 1) * ((k + 2:Nat):Int):=rfl
   have w1:w64 (facZ (k + 1) * ((k + 2:Nat):Int)) = facZ (k + 2):=by rw [← e];exact w64_eq (by omega)
   repeat' (first|with_reducible (first|refine Q1 ?_|refine Q2 ?_|refine Q3 ?_|refine Q4 ?_|refine Q5 ?_|refine Q6 ?_|refine Q7 ?_|refine Q8 ?_|refine Q9 ?_|refine Qa ?_|refine Qb ?_|refine Qc ?_|refine Qd ?_|refine Qe ?_|refine Qf ?_)|((with_reducible refine Qo ?_ ?_);focus rfl)|((with_reducible first|refine QT 5 (l:=?_) ?_ ?_|refine QF 5 (l:=?_) ?_ ?_);rotate_left 1;focus (simp only [Zu,Nat.reduceSub,Nat.reduceBEq];with_reducible rfl))|((with_reducible first|refine QS (cfg_ok 14) Tab.none (s':=?_) ?_ ?_|refine QC (b:=?_) ?_ ?_);rotate_left 1;focus ((with_reducible refine QW ?_);simp only [Zg,seval,if_true,if_false,reduceCtorEq,Nat.reduceEqDiff,i1,hw,w1];with_reducible rfl)))
   refine roundK.on (k + 1) ⟨.inl h,by omega⟩ ?_
   (repeat' (first|with_reducible refine Qn|((with_reducible refine Qr ?_ ?_);focus (first|with_reducible rfl|(simp only [Zz,Nat.reduceBEq];done)|rfl))|((with_reducible refine Qj (o':=?_) ?_ ?_ ?_);rotate_left 1;focus rfl)|((with_reducible refine Qw ?_ ?_);(focus (first|with_reducible rfl|(simp only [Zv];done)));focus (first|exact id|exact (fun h => nomatch h)|exact (fun _ => rfl)))))
  ·have i1:(((k + 2:Nat):Int) ≤ (n:Int)) = False:=eq_false (by omega)
   have e:facZ (k + 1) = facZ n:=by
    have hk:k + 1 ≤ n ∨ k = 0:=hk
    by_cases h1:k + 1 = n
    ·rw [h1]
    ·obtain rfl:k = 0:=by omega
     obtain rfl:n = 0:=by omega
     rfl
   rw [e]
   repeat' (first|with_reducible (first|refine Q1 ?_|refine Q2 ?_|refine Q3 ?_|refine Q4 ?_|refine Q5 ?_|refine Q6 ?_|refine Q7 ?_|refine Q8 ?_|refine Q9 ?_|refine Qa ?_|refine Qb ?_|refine Qc ?_|refine Qd ?_|refine Qe ?_|refine Qf ?_)|((with_reducible refine Qo ?_ ?_);focus rfl)|((with_reducible first|refine QT 5 (l:=?_) ?_ ?_|refine QF 5 (l:=?_) ?_ ?_);rotate_left 1;focus (simp only [Zu,Nat.reduceSub,Nat.reduceBEq];with_reducible rfl))|((with_reducible first|refine QS (cfg_ok 14) Tab.none (s':=?_) ?_ ?_|refine QC (b:=?_) ?_ ?_);rotate_left 1;focus ((with_reducible refine QW ?_);simp only [Zg,seval,if_true,if_false,reduceCtorEq,Nat.reduceEqDiff,i1];with_reducible rfl)))
   refine roundK.out () trivial ?_
   (repeat' (first|with_reducible refine Qn|((with_reducible refine Qr ?_ ?_);focus (first|with_reducible rfl|(simp only [Zz,Nat.reduceBEq];done)|rfl))|((with_reducible refine Qj (o':=?_) ?_ ?_ ?_);rotate_left 1;focus rfl)|((with_reducible refine Qw ?_ ?_);(focus (first|with_reducible rfl|(simp only [Zv];done)));focus (first|exact id|exact (fun h => nomatch h)|exact (fun _ => rfl)))))
 ·intro _ _
  repeat' (first|with_reducible (first|refine Q1 ?_|refine Q2 ?_|refine Q3 ?_|refine Q4 ?_|refine Q5 ?_|refine Q6 ?_|refine Q7 ?_|refine Q8 ?_|refine Q9 ?_|refine Qa ?_|refine Qb ?_|refine Qc ?_|refine Qd ?_|refine Qe ?_|refine Qf ?_)|((with_reducible refine Qo ?_ ?_);focus rfl)|((with_reducible first|refine QT 5 (l:=?_) ?_ ?_|refine QF 5 (l:=?_) ?_ ?_);rotate_left 1;focus (simp only [Zu,Nat.reduceSub,Nat.reduceBEq];with_reducible rfl))|((with_reducible first|refine QS (cfg_ok 14) Tab.none (s':=?_) ?_ ?_|refine QC (b:=?_) ?_ ?_);rotate_left 1;focus ((with_reducible refine QW ?_);simp only [Zg,seval,if_true,if_false,reduceCtorEq,Nat.reduceEqDiff];with_reducible rfl)))
  (refine Ends.mk (by simp) (rs:=?_) (ks:=?_) hres hrts ?_ ?_ ?_;rotate_left 2;(focus (simp only [Ze,Zg,seval,if_true,if_false,reduceCtorEq,Nat.reduceEqDiff];with_reducible rfl));(focus simp);focus (first|with_reducible rfl|(simp only [Zv];done)))
end Go.Proofs.Ytedgfkpfhonlpaa
namespace Go.Proofs.Ytedgfkpfhonlpaa
open Go.RowKit
def symOf (t:List Int):Int × Int:=if lev8 t = true then (symF 9 t,0) else (0,1)
theorem a_symmetry (t:List Int) (h8:lev8 t = true):AFn Try.prog 57 [eL t] (· = [.val (.int (symF 9 t))]) :=
 AFn.of_v (enters_of Try.func57 rfl rfl) (fun _ _ => rdV_int.2 ⟨rfl,symF_in 9 t⟩) (fun w A vs h => by
  obtain ⟨v,rfl,hr⟩:=tab_one h
  have:=lev8_len h8
  exact c_impl_symmetry 9 v t w hr (lev8_lev h8) (by omega) (by omega))
theorem a_SymmetryOf (t:List Int):AFn Try.prog 22 [eL t] (· = [.val (.int (symOf t).1),.val (.int (symOf t).2)]):=by
 have hl:=a_impl_IsLevels t
 unfold symOf
 by_cases h:lev8 t = true
 ·have hc:=a_symmetry t h
  rw [h] at hl
  rw [if_pos h]
  simp only [eL] at hl hc
  refine AFn.of_runs (cfg_ok 9) Try.func22 rfl rfl rfl (by simp only [List.length_cons,List.length_nil];decide) ?_
  have hres:Try.f22.results.toList = [.tmp 2,.tmp 3]:=rfl
  have hrts:Try.f22.resultTypes.toList = [2,2]:=rfl
  simp only [argRegs,argAV1,eL,eI,eLL,eB,Nat.zero_add,Nat.reduceAdd]
  intro M
  refine RunK.of ?_
  repeat' (first|with_reducible (first|refine Q1 ?_|refine Q2 ?_|refine Q3 ?_|refine Q4 ?_|refine Q5 ?_|refine Q6 ?_|refine Q7 ?_|refine Q8 ?_|refine Q9 ?_|refine Qa ?_|refine Qb ?_|refine Qc ?_|refine Qd ?_|refine Qe ?_|refine Qf ?_)|((with_reducible refine Qo ?_ ?_);focus rfl)|((with_reducible first|refine QT 4 (l:=?_) ?_ ?_|refine QF 4 (l:=?_) ?_ ?_);rotate_left 1;focus (simp only [Zu,Nat.reduceSub,Nat.reduceBEq];with_reducible rfl))|((with_reducible first|refine QS (cfg_ok 9) ((Tab.none.at' 9 hl).at' 57 hc) (s':=?_) ?_ ?_|refine QC (b:=?_) ?_ ?_);rotate_left 1;focus ((with_reducible refine QW ?_);simp only [Zg,seval,if_true,if_false,reduceCtorEq,Nat.reduceEqDiff];with_reducible rfl)))
  (refine Ends.mk (by simp) (rs:=?_) (ks:=?_) hres hrts ?_ ?_ ?_;rotate_left 2;(focus (simp only [Ze,Zg,seval,if_true,if_false,reduceCtorEq,Nat.reduceEqDiff];with_reducible rfl));(focus simp);focus (first|with_reducible rfl|(simp only [Zv];done)))
 ·rw [if_neg h]
  rw [show lev8 t = false by simpa using h] at hl
  simp only [eL] at hl
  refine AFn.of_runs (cfg_ok 9) Try.func22 rfl rfl rfl (by simp only [List.length_cons,List.length_nil];decide) ?_
  have hres:Try.f22.results.toList = [.tmp 2,.tmp 3]:=rfl
  have hrts:Try.f22.resultTypes.toList = [2,2]:=rfl
  simp only [argRegs,argAV1,eL,eI,eLL,eB,Nat.zero_add,Nat.reduceAdd]
  intro M
  refine RunK.of ?_
  repeat' (first|with_reducible (first|refine Q1 ?_|refine Q2 ?_|refine Q3 ?_|refine Q4 ?_|refine Q5 ?_|refine Q6 ?_|refine Q7 ?_|refine Q8 ?_|refine Q9 ?_|refine Qa ?_|refine Qb ?_|refine Qc ?_|refine Qd ?_|refine Qe ?_|refine Qf ?_)|((with_reducible refine Qo ?_ ?_);focus rfl)|((with_reducible first|refine QT 4 (l:=?_) ?_ ?_|refine QF 4 (l:=?_) ?_ ?_);rotate_left 1;focus (simp only [Zu,Nat.reduceSub,Nat.reduceBEq];with_reducible rfl))|((with_reducible first|refine QS (cfg_ok 9) (Tab.none.at' 9 hl) (s':=?_) ?_ ?_|refine QC (b:=?_) ?_ ?_);rotate_left 1;focus ((with_reducible refine QW ?_);simp only [Zg,seval,if_true,if_false,reduceCtorEq,Nat.reduceEqDiff];with_reducible rfl)))
  (refine Ends.mk (by simp) (rs:=?_) (ks:=?_) hres hrts ?_ ?_ ?_;rotate_left 2;(focus (simp only [Ze,Zg,seval,if_true,if_false,reduceCtorEq,Nat.reduceEqDiff];with_reducible rfl));(focus simp);focus (first|with_reducible rfl|(simp only [Zv];done)))
end Go.Proofs.Ytedgfkpfhonlpaa
namespace Go.Proofs.Ytedgfkpfhonlpaa
open Go.RowKit
section
variable {α:Type}
theorem swpL_at (xs:List α) (i j:Nat) (hi:i < xs.length) (hj:j < xs.length) (k:Nat):(swpL xs i j)[k]? = if k = j then xs[i]? else if k = i then xs[j]? else xs[k]?:=by
 by_cases hk:k < xs.length
 ·rw [List.getElem?_eq_getElem (by rw [swpL_length];exact hk),swpL_get xs i j hi hj k hk]
  split
  ·rw [List.getElem?_eq_getElem hi]
  ·split
   ·rw [List.getElem?_eq_getElem hj]
   ·rw [List.getElem?_eq_getElem hk]
 ·rw [List.getElem?_eq_none (by rw [swpL_length];omega),if_neg (by omega),if_neg (by omega),List.getElem?_eq_none (by omega)]
structure Ix (f:Nat→Nat) (xs ys:List α):Prop where
 len:ys.length = xs.length
 at_:∀ k,ys[k]? = xs[f k]?
theorem Ix.refl {f:Nat→Nat} {xs:List α} (h:∀ k,f k = k):Ix f xs xs:=⟨rfl,fun k => by rw [h]⟩
theorem Ix.congr {f g:Nat→Nat} {xs ys:List α} (a:Ix f xs ys) (e:∀ k,g k = f k):Ix g xs ys:=⟨a.len,fun k => by rw [e];exact a.at_ k⟩
theorem Ix.comp {f g h:Nat→Nat} {xs ys zs:List α} (a:Ix f xs ys) (b:Ix g ys zs) (e:∀ k,h k = f (g k)):Ix h xs zs:=⟨b.len.trans a.len,fun k => by rw [b.at_,a.at_,e]⟩
theorem Ix.swp {f g:Nat→Nat} {xs ys:List α} (h:Ix f xs ys) {i j:Nat} (hi:i < xs.length) (hj:j < xs.length) (hg:∀ k,g k = f (if k = j then i else if k = i then j else k)):Ix g xs (swpL ys i j):=by
 refine ⟨by rw [swpL_length,h.len],fun k => ?_⟩
 rw [swpL_at ys i j (by rw [h.len];exact hi) (by rw [h.len];exact hj),hg]
 split
 ·exact h.at_ _
 ·split
  ·exact h.at_ _
  ·exact h.at_ _
theorem Ix.get {f:Nat→Nat} {xs ys:List α} (h:Ix f xs ys) {k:Nat} (hk:k < ys.length):∃ hf:f k < xs.length,ys[k] = xs[f k]:=by
 have:=h.at_ k
 rw [List.getElem?_eq_getElem hk] at this
 obtain ⟨hf,e⟩:=List.getElem?_eq_some_iff.1 this.symm
 exact ⟨hf,e.symm⟩
def swpI (a b n k:Nat):Nat:=if a ≤ k∧k < a + n then k - a + b else if b ≤ k∧k < b + n then k - b + a else k
def rotI (a m b k:Nat):Nat:=if a ≤ k∧k < a + (b - m) then k + (m - a) else if a + (b - m) ≤ k∧k < b then k - (b - m) else k
def RotS (a m b i j:Nat) (xs ys:List α):Prop:=∃ g,Ix g xs ys∧∀ k,rotI a m b k = g (rotI (m - i) m (m + j) k)
theorem RotS.done {a m b i:Nat} {xs ys zs:List α} (h:RotS a m b i i xs ys) (him:i ≤ m) (hz:Ix (swpI (m - i) m i) ys zs):Ix (rotI a m b) xs zs:=by
 obtain ⟨g,hg,e⟩:=h
 refine hg.comp hz fun k => ?_
 rw [e]
 congr 1
 unfold rotI swpI
 repeat' split
 all_goals omega
variable {c:α→α→Int}
def LeAt (c:α→α→Int) (xs:List α) (p q:Nat):Prop:=∀ (hp:p < xs.length) (hq:q < xs.length),c xs[p] xs[q] ≤ 0
theorem LeAt.trans (hc:Cmp c) {xs:List α} {p m q:Nat} (hm:m < xs.length) (h:LeAt c xs p m) (k:LeAt c xs m q):LeAt c xs p q:=fun hp hq => hc.trans _ _ _ (h hp hm) (k hm hq)
theorem SegOk.le {a b:Nat} {xs:List α} (h:SegOk c a b xs) {p q:Nat} (h1:a ≤ p) (h2:p < q) (h3:q < b):LeAt c xs p q:=fun hp hq => h p q hp hq h1 h2 h3
theorem SegOk.sub {a b a' b':Nat} {xs:List α} (h:SegOk c a b xs) (h1:a ≤ a') (h2:b' ≤ b):SegOk c a' b' xs:=fun p q hp hq k1 k2 k3 => h p q hp hq (by omega) k2 (by omega)
theorem LeAt.of {xs ys:List α} {p q p' q':Nat} (hp:ys[p]? = xs[p']?) (hq:ys[q]? = xs[q']?) (h:LeAt c xs p' q'):LeAt c ys p q:=by
 intro k1 k2
 rw [List.getElem?_eq_getElem k1] at hp
 rw [List.getElem?_eq_getElem k2] at hq
 obtain ⟨j1,e1⟩:=List.getElem?_eq_some_iff.1 hp.symm
 obtain ⟨j2,e2⟩:=List.getElem?_eq_some_iff.1 hq.symm
 rw [← e1,← e2]
 exact h j1 j2
theorem SegOk.perm {a b a' b':Nat} {xs ys:List α} (h:SegOk c a b xs) (k:PermIn a' b' xs ys) (hd:b ≤ a' ∨ b' ≤ a):SegOk c a b ys:=by
 intro p q hp hq h1 h2 h3
 exact LeAt.of (k.out p (by omega)) (k.out q (by omega)) (h.le h1 h2 h3) hp hq
end
end Go.Proofs.Ytedgfkpfhonlpaa

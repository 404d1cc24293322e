/- Lemmas (6). -/
import Derived.Deep.LoopGhost
import Derived.Deep.RegionHeld3
import Derived.Deep.RegionLaw
import Derived.Shelf.Abstract
import Derived.Shelf.RegionOpenPlain
import Derived.Test.YtedgfkpfhonlpaaGreatZN0
import Derived.Test.YtedgfkpfhonlpaaGreatZN4
import Derived.Test.YtedgfkpfhonlpaaGreatZN5
set_option maxHeartbeats 16000000
set_option maxRecDepth 100000
set_option linter.unusedSimpArgs false
set_option linter.unusedVariables false
namespace Go.Proofs.YtedgfkpfhonlpaaGreat
open Go.RowKit
section
def marks (n:Nat) (k:Int):List Int:=(List.range n).map fun (i:Nat) => k + (i:Int)
theorem Row.ownI {w:World} {v:Value} {xs:List Int} {og:Option Nat} (h:Row w v 1 xs.length (xs.map (Value.int .i64)) og) (hb:∀ x ∈ xs,qH x):(RS RI).own w [v] xs og.toList :=
 ⟨v,og,xs.map (Value.int .i64),[],rfl,h,ownL_ints_mk hb,by simp⟩
theorem Row.OwnIh {w:World} {v:Value} {xs:List Int} {og:Option Nat} {lo hi:Nat} (h:Row w v 1 xs.length (xs.map (Value.int .i64)) og) (hb:∀ x ∈ xs,qH x) (hlo:∀ g,og = some g→lo ≤ g∧g < hi):Own (RS RI) lo hi w [v] xs :=
 ⟨og.toList,h.ownI hb,by cases og <;> simp,fun b hb' => by have e:og = some b:=by simpa using hb'
                                                           exact hlo b e⟩
theorem Row.OwnI {w:World} {v:Value} {xs:List Int} {og:Option Nat} {lo:Nat} (h:Row w v 1 xs.length (xs.map (Value.int .i64)) og) (hb:∀ x ∈ xs,qH x) (hlo:∀ g,og = some g→lo ≤ g):Own (RS RI) lo w.heap.size w [v] xs :=
 ⟨og.toList,h.ownI hb,by cases og <;> simp,fun b hb' => by have e:og = some b:=by simpa using hb'
                                                           exact ⟨hlo b e,h.lt b e⟩⟩
end
section
theorem cmpL_step {xs ys:List Int} {k:Nat} (h1:k < xs.length) (h2:k < ys.length) :
  cmpL (xs.drop k) (ys.drop k) = if xs[k] < ys[k] then -1 else if ys[k] < xs[k] then 1 else cmpL (xs.drop (k + 1)) (ys.drop (k + 1)):=by
 rw [List.drop_eq_getElem_cons h1,List.drop_eq_getElem_cons h2];rfl
theorem cmpL_endR {xs ys:List Int} {k:Nat} (h1:k < xs.length) (h2:ys.length ≤ k):cmpL (xs.drop k) (ys.drop k) = 1:=by
 rw [List.drop_eq_getElem_cons h1,List.drop_of_length_le h2];rfl
theorem cmpL_endL {xs ys:List Int} {k:Nat} (h1:xs.length ≤ k) (h2:k < ys.length):cmpL (xs.drop k) (ys.drop k) = -1:=by
 rw [List.drop_eq_getElem_cons h2,List.drop_of_length_le h1];rfl
theorem cmpL_end0 {xs ys:List Int} {k:Nat} (h1:xs.length ≤ k) (h2:ys.length ≤ k):cmpL (xs.drop k) (ys.drop k) = 0:=by
 rw [List.drop_of_length_le h1,List.drop_of_length_le h2];rfl
theorem drewN3 (w:World) (n m k:Nat):∃ j,((w.drewN n).drewN m).drewN k = w.drewN j:=⟨_,by rw [World.drewN_drewN,World.drewN_drewN]⟩
def cmpI (x y:Int):Int:=if x < y then -1 else if y < x then 1 else 0
theorem c_isNaN (x:Int) (w:World):Calls Tryz.prog 249 #[.int .i64 x] w (RetS w (.bool false)):=by
 have h:(x != x) = false:=by simp
 go_enter Tryz.func249,Tryz.ntmps249
 go_wp2_with fail
 go_ret
 exact ⟨by simp,rfl⟩
theorem xW0 (x y:Int) (w:World):Calls Tryz.prog 203 #[.int .i64 x,.int .i64 y] w (RetS w (.int .i64 (cmpI x y))):=by
 unfold cmpI
 by_cases h1:x < y
 ·go_enter Tryz.func203,Tryz.ntmps203
  go_wp2_with (go_at_call 249;refine (c_isNaN _ _).mono ?_;rintro e w' ⟨rfl,rfl⟩)
  go_ret
  exact ⟨by simp,rfl⟩
 ·by_cases h2:y < x
  ·go_enter Tryz.func203,Tryz.ntmps203
   go_wp2_with (go_at_call 249;refine (c_isNaN _ _).mono ?_;rintro e w' ⟨rfl,rfl⟩)
   go_ret
   exact ⟨by simp,rfl⟩
  ·go_enter Tryz.func203,Tryz.ntmps203
   go_wp2_with (go_at_call 249;refine (c_isNaN _ _).mono ?_;rintro e w' ⟨rfl,rfl⟩)
   go_ret
   exact ⟨by simp,rfl⟩
theorem kW0 (v1 v2:Value) (xs ys:List Int) (w:World) (h1:Rd (RS RI) w [v1] xs) (h2:Rd (RS RI) w [v2] ys) :
  Calls Tryz.prog 158 #[v1,v2] w (RetS w (.int .i64 (cmpL xs ys))):=by
 obtain ⟨oa,c1,I1⟩:=h1.ints
 obtain ⟨ob,c2,I2⟩:=h2.ints
 obtain rfl:=I1.val
 obtain rfl:=I2.val
 have m1:=I1.le;have m2:=I1.capLe;have m3:=I2.le;have m4:=I2.capLe
 unfold maxLen at m2 m4
 go_enter Tryz.func158,Tryz.ntmps158
 go_wp2_with fail
 go_loop [11] (fun i => ∃ k:Nat,k ≤ xs.length∧k ≤ ys.length∧i = .int .i64 k∧cmpL xs ys = cmpL (xs.drop k) (ys.drop k)) (fun i => xs.length - (intOf i).toNat)
 case atStart => exact ⟨0,Nat.zero_le _,Nat.zero_le _,rfl,by simp⟩
 case round =>
  obtain ⟨k,hk,hk2,rfl,he⟩:=hrel
  have He:=Lib.hid he
  clear he
  by_cases hlt:k < xs.length
  ·obtain ⟨b1,o1,rfl,hb1,hc1⟩:=I1.get hlt
   have g1:=hc1 k hlt
   clear hc1
   by_cases hlt2:k < ys.length
   ·obtain ⟨b2,o2,rfl,hb2,hc2⟩:=I2.get hlt2
    have g2:=hc2 k hlt2
    clear hc2
    have hs:=cmpL_step hlt hlt2
    by_cases l1:xs[k] < ys[k]
    ·have hcI:cmpI xs[k] ys[k] = -1:=by simp [cmpI,l1]
     have Hs:=Lib.hid hs
     have L1:=Lib.hid l1
     clear hs l1
     go_wp2_with (go_at_call 203;refine (xW0 _ _ _).mono ?_;rintro e w' ⟨rfl,rfl⟩)
     go_ret
     exact ⟨by (rw [He.out,Hs.out,if_pos L1.out] <;> rfl),rfl⟩
    ·by_cases l2:ys[k] < xs[k]
     ·have hcI:cmpI xs[k] ys[k] = 1:=by simp [cmpI,l1,l2]
      have Hs:=Lib.hid hs
      have L1:=Lib.hid l1
      have L2:=Lib.hid l2
      clear hs l1 l2
      go_wp2_with (go_at_call 203;refine (xW0 _ _ _).mono ?_;rintro e w' ⟨rfl,rfl⟩)
      go_ret
      exact ⟨by (rw [He.out,Hs.out,if_neg (show ¬ xs[k] < ys[k] by have:=L1.out;omega),if_pos L2.out] <;> rfl),rfl⟩
     ·have hcI:cmpI xs[k] ys[k] = 0:=by simp [cmpI,l1,l2]
      have Hs:=Lib.hid hs
      have L1:=Lib.hid l1
      have L2:=Lib.hid l2
      clear hs l1 l2
      go_wp2_with (go_at_call 203;refine (xW0 _ _ _).mono ?_;rintro e w' ⟨rfl,rfl⟩)
      go_round
      case rel => exact ⟨k + 1,by omega,by omega,by go_num,by rw [He.out,Hs.out,if_neg (show ¬ xs[k] < ys[k] by have:=L1.out;omega),if_neg (show ¬ ys[k] < xs[k] by have:=L2.out;omega)]⟩
      case measure => simp [intOf];omega
   ·go_wp2_with fail
    go_ret
    exact ⟨by (rw [He.out,cmpL_endR hlt (by omega)] <;> rfl),rfl⟩
  ·by_cases hlt2:k < ys.length
   ·go_wp2_with fail
    go_ret
    exact ⟨by (rw [He.out,cmpL_endL (by omega) hlt2] <;> rfl),rfl⟩
   ·go_wp2_with fail
    go_ret
    exact ⟨by (rw [He.out,cmpL_end0 (by omega) (by omega)] <;> rfl),rfl⟩
theorem yO0 (v1 v2:Value) (xs ys:List Int) (w:World) (h1:Rd (RS RI) w [v1] xs) (h2:Rd (RS RI) w [v2] ys) :
  Calls Tryz.prog 119 #[v1,v2] w (RetS w (.int .i64 (cmpT xs ys))):=by
 obtain ⟨oa,c1,e1,m1,m2⟩:=h1.val
 obtain ⟨ob,c2,e2,m3,m4⟩:=h2.val
 subst e1;subst e2
 unfold maxLen at m2 m4
 by_cases hl:xs.length = ys.length
 ·have hlb:((xs.length:Int) != (ys.length:Int)) = false:=by simp [hl]
  have Hl:=Lib.hid hl
  clear hl
  go_enter Tryz.func119,Tryz.ntmps119
  go_wp2_with (go_at_call 158;refine (kW0 _ _ _ _ _ h2 h1).mono ?_;rintro e w' ⟨rfl,rfl⟩)
  go_ret
  exact ⟨by (unfold cmpT;rw [if_pos Hl.out] <;> rfl),rfl⟩
 ·have hlb:((xs.length:Int) != (ys.length:Int)) = true:=by simp;omega
  have hw:IntKind.i64.wrap ((xs.length:Int) - (ys.length:Int)) = (xs.length:Int) - (ys.length:Int):=IntWalk.i64_in _ (by omega)
  go_enter Tryz.func119,Tryz.ntmps119
  go_wp2_with fail
  go_ret
  exact ⟨by unfold cmpT;rw [if_neg hl];rfl,rfl⟩
theorem c_impl_canonical1 (v1 v2:Value) (xs ys:List Int) (w:World) (h1:Rd (RS RI) w [v1] xs) (h2:Rd (RS RI) w [v2] ys) :
  Calls Tryz.prog 157 #[v1,v2] w (RetS w (.int .i64 (cmpD xs ys))):=by
 obtain ⟨oa,c1,e1,m1,m2⟩:=h1.val
 obtain ⟨ob,c2,e2,m3,m4⟩:=h2.val
 subst e1;subst e2
 go_enter Tryz.func157,Tryz.ntmps157
 go_wp2_with (go_at_call 158;refine (kW0 _ _ _ _ _ h2 h1).mono ?_;rintro e w' ⟨rfl,rfl⟩)
 go_ret
 exact ⟨rfl,rfl⟩
theorem c_slicesEqual (v1 v2:Value) (xs ys:List Int) (w:World) (h1:Rd (RS RI) w [v1] xs) (h2:Rd (RS RI) w [v2] ys) :
  Calls Tryz.prog 180 #[v1,v2] w (RetQ w (.bool (decide (xs = ys)))):=by
 obtain ⟨oa,c1,I1⟩:=h1.ints
 obtain ⟨ob,c2,I2⟩:=h2.ints
 obtain rfl:=I1.val
 obtain rfl:=I2.val
 have m1:=I1.le;have m2:=I1.capLe;have m3:=I2.le;have m4:=I2.capLe
 unfold maxLen at m2 m4
 by_cases hl:xs.length = ys.length
 ·have Hl:=Lib.hid hl
  have hlb:((xs.length:Int) != (ys.length:Int)) = false:=by simp [hl]
  clear hl
  go_enter Tryz.func180,Tryz.ntmps180
  go_wp2_with fail
  go_loopw [13] (fun i wr => ∃ k:Nat,k ≤ xs.length∧i = .int .i64 k∧xs.take k = ys.take k∧∃ n,wr = w.drewN n) (fun i _ => xs.length - (intOf i).toNat)
  case atStart => exact ⟨0,Nat.zero_le _,rfl,by simp,0,rfl⟩
  case round =>
   obtain ⟨k,hk,rfl,heq,n,rfl⟩:=hrel
   have Heq:=Lib.hid heq
   clear heq
   by_cases hlt:k < xs.length
   ·have hlt2:k < ys.length:=by rw [← Hl.out];exact hlt
    obtain ⟨b1,o1,rfl,hb1,hc1⟩:=I1.get hlt
    obtain ⟨b2,o2,rfl,hb2,hc2⟩:=I2.get hlt2
    have g1:=hc1 k hlt
    have g2:=hc2 k hlt2
    clear hc1 hc2
    by_cases he:xs[k] = ys[k]
    ·have hne:(xs[k] != ys[k]) = false:=by simp [he]
     have He:=Lib.hid he
     clear he
     go_wp2_with fail
     go_quiet (fail)
     go_wp2_with fail
     go_roundw
     case rel => exact ⟨k + 1,by omega,by go_num,take_succ_eq hlt hlt2 Heq.out He.out,_,rfl⟩
     case measure => simp [intOf];omega
    ·have hne:(xs[k] != ys[k]) = true:=by simp [he]
     go_wp2_with fail
     go_quiet (fail)
     go_wp2_with fail
     go_ret
     exact ⟨by (rw [decide_eq_false (fun e => he (by subst e;rfl))] <;> rfl),(by first|exact xW _ _|exact xY _ _ _)⟩
   ·go_wp2_with fail
    go_ret
    refine ⟨?_,_,rfl⟩
    have h:=Heq.out
    rw [List.take_of_length_le (by omega),List.take_of_length_le (by rw [← Hl.out];omega)] at h
    rw [decide_eq_true h] <;> rfl
 ·have hlb:((xs.length:Int) != (ys.length:Int)) = true:=by simp;omega
  go_enter Tryz.func180,Tryz.ntmps180
  go_wp2_with fail
  go_ret
  exact ⟨by (rw [decide_eq_false (fun e => hl (by subst e;rfl))] <;> rfl),0,rfl⟩
theorem c_spec_l01Same (v1 v2:Value) (xs ys:List Int) (w:World) (h1:Rd (RS RI) w [v1] xs) (h2:Rd (RS RI) w [v2] ys) :
  Calls Tryz.prog 189 #[v1,v2] w (RetQ w (.bool (decide (xs = ys)))):=by
 obtain ⟨oa,c1,I1⟩:=h1.ints
 obtain ⟨ob,c2,I2⟩:=h2.ints
 obtain rfl:=I1.val
 obtain rfl:=I2.val
 have m1:=I1.le;have m2:=I1.capLe;have m3:=I2.le;have m4:=I2.capLe
 unfold maxLen at m2 m4
 by_cases hl:xs.length = ys.length
 ·have Hl:=Lib.hid hl
  have hlb:((xs.length:Int) != (ys.length:Int)) = false:=by simp [hl]
  clear hl
  go_enter Tryz.func189,Tryz.ntmps189
  go_wp2_with fail
  go_loopw [5] (fun i wr => ∃ k:Nat,k ≤ xs.length∧i = .int .i64 k∧xs.take k = ys.take k∧∃ n,wr = w.drewN n) (fun i _ => xs.length - (intOf i).toNat)
  case atStart => exact ⟨0,Nat.zero_le _,rfl,by simp,0,rfl⟩
  case round =>
   obtain ⟨k,hk,rfl,heq,n,rfl⟩:=hrel
   have Heq:=Lib.hid heq
   clear heq
   by_cases hlt:k < xs.length
   ·have hlt2:k < ys.length:=by rw [← Hl.out];exact hlt
    obtain ⟨b1,o1,rfl,hb1,hc1⟩:=I1.get hlt
    obtain ⟨b2,o2,rfl,hb2,hc2⟩:=I2.get hlt2
    have g1:=hc1 k hlt
    have g2:=hc2 k hlt2
    clear hc1 hc2
    by_cases he:xs[k] = ys[k]
    ·have hne:(xs[k] != ys[k]) = false:=by simp [he]
     have He:=Lib.hid he
     clear he
     go_wp2_with fail
     go_quiet (fail)
     go_wp2_with fail
     go_roundw
     case rel => exact ⟨k + 1,by omega,by go_num,take_succ_eq hlt hlt2 Heq.out He.out,_,rfl⟩
     case measure => simp [intOf];omega
    ·have hne:(xs[k] != ys[k]) = true:=by simp [he]
     go_wp2_with fail
     go_quiet (fail)
     go_wp2_with fail
     go_ret
     exact ⟨by (rw [decide_eq_false (fun e => he (by subst e;rfl))] <;> rfl),(by first|exact xW _ _|exact xY _ _ _)⟩
   ·go_wp2_with fail
    go_ret
    refine ⟨?_,_,rfl⟩
    have h:=Heq.out
    rw [List.take_of_length_le (by omega),List.take_of_length_le (by rw [← Hl.out];omega)] at h
    rw [decide_eq_true h] <;> rfl
 ·have hlb:((xs.length:Int) != (ys.length:Int)) = true:=by simp;omega
  go_enter Tryz.func189,Tryz.ntmps189
  go_wp2_with fail
  go_ret
  exact ⟨by (rw [decide_eq_false (fun e => hl (by subst e;rfl))] <;> rfl),0,rfl⟩
theorem kQ0 (v1 v2:Value) (xs ys:List Int) (w:World) (h1:Rd (RS RI) w [v1] xs) (h2:Rd (RS RI) w [v2] ys) :
  Calls Tryz.prog 190 #[v1,v2] w (RetQ w (.bool (decide (cmpL xs ys < 0)))):=by
 obtain ⟨oa,c1,I1⟩:=h1.ints
 obtain ⟨ob,c2,I2⟩:=h2.ints
 obtain rfl:=I1.val
 obtain rfl:=I2.val
 have m1:=I1.le;have m2:=I1.capLe;have m3:=I2.le;have m4:=I2.capLe
 unfold maxLen at m2 m4
 go_enter Tryz.func190,Tryz.ntmps190
 go_wp2_with fail
 go_loopw [5] (fun i wr => ∃ k:Nat,k ≤ xs.length∧k ≤ ys.length∧i = .int .i64 k∧cmpL xs ys = cmpL (xs.drop k) (ys.drop k)∧∃ n,wr = w.drewN n) (fun i _ => xs.length - (intOf i).toNat)
 case atStart => exact ⟨0,Nat.zero_le _,Nat.zero_le _,rfl,by simp,0,rfl⟩
 case round =>
  obtain ⟨k,hk,hk2,rfl,he,n,rfl⟩:=hrel
  have He:=Lib.hid he
  clear he
  by_cases hlt:k < xs.length
  ·obtain ⟨b1,o1,rfl,hb1,hc1⟩:=I1.get hlt
   have g1:=hc1 k hlt
   clear hc1
   by_cases hlt2:k < ys.length
   ·obtain ⟨b2,o2,rfl,hb2,hc2⟩:=I2.get hlt2
    have g2:=hc2 k hlt2
    clear hc2
    have hs:=cmpL_step hlt hlt2
    by_cases e1:xs[k] = ys[k]
    ·have hne:(xs[k] != ys[k]) = false:=by simp [e1]
     rw [if_neg (by omega),if_neg (by omega)] at hs
     have Hs:=Lib.hid hs
     clear hs e1
     go_wp2_with fail
     go_quiet (fail)
     go_wp2_with fail
     go_roundw
     case rel => exact ⟨k + 1,by omega,by omega,by go_num,by rw [He.out,Hs.out],(by first|exact xW _ _|exact xY _ _ _)⟩
     case measure => simp [intOf];omega
    ·have hne:(xs[k] != ys[k]) = true:=by simp [e1]
     have hr:decide (cmpL xs ys < 0) = decide (xs[k] < ys[k]):=by
      rw [He.out,hs]
      by_cases l1:xs[k] < ys[k]
      ·rw [if_pos l1,decide_eq_true l1];rfl
      ·rw [if_neg l1,if_pos (by omega),decide_eq_false l1];rfl
     have Hr:=Lib.hid hr
     clear hs hr e1
     go_wp2_with fail
     go_quiet (fail)
     go_wp2_with fail
     go_quiet (fail)
     go_wp2_with fail
     go_ret
     exact ⟨by (rw [Hr.out] <;> rfl),(by first|exact xW _ _|exact xY _ _ _|exact drewN3 _ _ _ _)⟩
   ·have hr:decide (cmpL xs ys < 0) = false:=by rw [He.out,cmpL_endR hlt (by omega)];rfl
    have hf:((xs.length:Int) < (ys.length:Int)) = False:=by simp;omega
    go_wp2_with fail
    go_ret
    exact ⟨by rw [hr];simp <;> omega,(by first|exact xW _ _|exact xY _ _ _)⟩
  ·by_cases hlt2:k < ys.length
   ·have hr:decide (cmpL xs ys < 0) = true:=by rw [He.out,cmpL_endL (by omega) hlt2];rfl
    go_wp2_with fail
    go_ret
    exact ⟨by rw [hr];simp <;> omega,(by first|exact xW _ _|exact xY _ _ _)⟩
   ·have hr:decide (cmpL xs ys < 0) = false:=by rw [He.out,cmpL_end0 (by omega) (by omega)];rfl
    go_wp2_with fail
    go_ret
    exact ⟨by rw [hr];simp <;> omega,(by first|exact xW _ _|exact xY _ _ _)⟩
theorem kR0 (v1 v2:Value) (xs ys:List Int) (w:World) (h1:Rd (RS RI) w [v1] xs) (h2:Rd (RS RI) w [v2] ys) :
  Calls Tryz.prog 129 #[v1,v2] w (RetQ w (.bool (decide (cmpT xs ys < 0)))):=by
 obtain ⟨oa,c1,e1,m1,m2⟩:=h1.val
 obtain ⟨ob,c2,e2,m3,m4⟩:=h2.val
 subst e1;subst e2
 unfold maxLen at m2 m4
 by_cases hl:xs.length = ys.length
 ·have hlb:((xs.length:Int) != (ys.length:Int)) = false:=by simp [hl]
  have Hl:=Lib.hid hl
  clear hl
  go_enter Tryz.func129,Tryz.ntmps129
  go_wp2_with (go_at_call 190;refine (kQ0 _ _ _ _ _ h2 h1).mono ?_;rintro e w' ⟨rfl,n,rfl⟩)
  go_ret
  exact ⟨by (unfold cmpT;rw [if_pos Hl.out] <;> rfl),(by first|exact xW _ _|exact xY _ _ _)⟩
 ·have hlb:((xs.length:Int) != (ys.length:Int)) = true:=by simp;omega
  go_enter Tryz.func129,Tryz.ntmps129
  go_wp2_with fail
  go_ret
  refine ⟨?_,0,rfl⟩
  unfold cmpT;rw [if_neg hl]
  have e:decide ((xs.length:Int) - ys.length < 0) = decide (xs.length < ys.length):=by rw [decide_eq_decide];omega
  rw [e] <;> rfl
theorem Row.cells_ints {w:World} {xs:List Int} {oa:Option Addr} {cap:Nat} {v:Value} (I:Ints w v xs oa cap):∀ a,oa = some a→∀ j u,(xs.map (Value.int .i64))[j]? = some u→w.cell? (a.add j) = some u:=by
 intro a ha j u hj
 rcases I.row with h|⟨b,off,e,hb,hc⟩
 ·subst h;simp at hj
 ·rw [ha] at e;cases e
  rw [List.getElem?_map] at hj
  obtain ⟨hlt,hv⟩:∃ h:j < xs.length,Value.int .i64 xs[j] = u:=by
   by_cases h:j < xs.length
   ·rw [List.getElem?_eq_getElem h] at hj;simp at hj;exact ⟨h,hj⟩
   ·rw [List.getElem?_eq_none (by omega)] at hj;simp at hj
  rw [Addr.add_lit,hc j hlt,hv]
theorem kD0 (v:Value) (xs:List Int) (w:World) (h:Rd (RS RI) w [v] xs) (hsz:xs.length ≤ 1000000000) :
  Calls Tryz.prog 133 #[v] w (RetO (RS RI) w xs):=by
 obtain ⟨oa,c1,I1⟩:=h.ints
 obtain rfl:=I1.val
 have m1:=I1.le;have m2:=I1.capLe
 unfold maxLen at m2
 have hnone:oa = none→xs.length = 0:=fun e => by have:=I1.noneCap e;omega
 have I2:Ints (w.alloc (.cells #[] 2)) (.slice oa xs.length c1) xs oa c1:=by
  refine ⟨rfl,m1,I1.capLe,I1.noneCap,I1.bd,?_⟩
  rcases I1.row with h|⟨b,off,e,hb,hc⟩
  ·exact .inl h
  ·refine .inr ⟨b,off,e,by simp;omega,fun j hj => ?_⟩
   rw [World.cell?_alloc_lt _ _ _ hb];exact hc j hj
 have hrow:=Row.lit w #[] 2 1 0 (by decide) (by simp)
 have HI:=Lib.hid I2
 have HR:=Lib.hid hrow
 clear I2 hrow
 go_enter Tryz.func133,Tryz.ntmps133
 go_wp2_with (at_builtin;refine xD rfl _ _ 24 rfl 2 (.int .i64 0) 1 8 tI64 (.slice (some ⟨w.heap.size,0,none⟩) 0 0) 0 [] (some w.heap.size) rfl (by simpa using HR.out) oa xs.length c1 (xs.map (Value.int .i64)) rfl (by simp) hnone (Row.cells_ints HI.out) (by intro u hu;obtain ⟨x,_,rfl⟩:=List.mem_map.1 hu;rfl) (by omega) (by unfold maxLen;omega) ?_;intro v' w' og' happ;refine jA.out ?_)
 rw [Nat.zero_add,List.nil_append] at happ
 obtain ⟨a1,a2,a3⟩:=happ
 have hbel:Below w.heap.size w w':=((Below.refl w.heap.size w).alloc (Nat.le_refl _) (.cells #[] 2)).trans (Below.of_grown a2 (by simp) (fun g hg => by cases hg;exact Nat.le_refl _))
 have hown:Own (RS RI) w.heap.size w'.heap.size w' [v'] xs:=by
  refine Row.OwnI (by simpa using a1) I1.bd (fun g hg => ?_)
  rcases a3 with a3|⟨b,a3,hb⟩
  ·rw [hg] at a3;cases a3;exact Nat.le_refl _
  ·rw [hg] at a3;cases a3;simp at hb;omega
 have HO:=Lib.hid hown
 obtain ⟨oa',cap',rfl,_⟩:=hown.val
 clear hown a1 a2 a3
 refine jA.go ?_
 go_wp2_with fail
 go_ret
 exact ⟨_,rfl,HO.out,hbel⟩
end
section
theorem yP {P:Program} {ops:Array Oper} {rest:List Oper} {o:Oper} {a:Act} {w:World} {Q:Exit→Act→World→Prop} (h:jA (wpList P ops Q (o :: rest) a w)):wpList P ops Q (o :: rest) a w:=h
theorem enters {P:Program} {f:FuncId} {fn:Func} {c:Code} (hf:P.funcs[f]? = some fn) (hname:(fn.name == "runtime.NumGoroutine") = false) (hb:fn.body = some c):∀ args w,(callFunc f args).run P w = .ok (.enter f args) w :=
 enters_of hf hname hb
structure Lists {β:Type} (S:Rep β) (w:World) (v:Value) (xss:List (List β)) (oa:Option Addr) (cap:Nat):Prop where
 val:v = .slice oa xss.length cap
 le:xss.length ≤ cap
 capLe:cap ≤ 9223372036854775807
 noneCap:oa = none→cap = 0
 row:xss = [] ∨ ∃ b off,oa = some ⟨b,off,none⟩∧b < w.heap.size∧∀ j (h:j < xss.length),∃ oi ci,w.cell? ⟨b,off + j,none⟩ = some (.slice oi xss[j].length ci)∧Rd (RS S) w [.slice oi xss[j].length ci] xss[j]∧xss[j].length ≤ ci∧ci ≤ 9223372036854775807
theorem Rd.lists {β:Type} {S:Rep β} {w:World} {v:Value} {xss:List (List β)} (h:Rd (RS (RS S)) w [v] xss):∃ oa cap,Lists S w v xss oa cap:=by
 obtain ⟨oa,cap,ds,h1,h2,h3,h4,h5,h6⟩:=h
 refine ⟨oa,cap,by simpa using h1,h2,by unfold maxLen at h3;omega,h4,?_⟩
 rcases h6 with h6|⟨b,off,e,hb,hc⟩
 ·left
  have:=h5.len
  rw [h6] at this
  exact List.eq_nil_of_length_eq_zero (by simpa [show (RS S).k = 1 from rfl] using this.symm)
 ·refine .inr ⟨b,off,e,hb,fun j hj => ?_⟩
  obtain ⟨c,k1,k2⟩:=h5.get j hj
  have hl:=(RS S).rd_len k1
  match c,hl with
  | [u],_ =>
   obtain ⟨oi,ci,e2,e3,e4⟩:=Rd.val (R:=S) (v:=u) k1
   subst e2
   refine ⟨oi,ci,hc j _ ?_,k1,e3,by unfold maxLen at e4;omega⟩
   have:=k2 0 _ rfl
   simpa [show (RS S).k = 1 from rfl] using this
theorem Lists.get {β:Type} {S:Rep β} {w:World} {v:Value} {xss:List (List β)} {oa:Option Addr} {cap:Nat} (h:Lists S w v xss oa cap) {k:Nat} (hk:k < xss.length) :
  ∃ b off,oa = some ⟨b,off,none⟩∧b < w.heap.size∧∀ j (h:j < xss.length),∃ oi ci,w.cell? ⟨b,off + j,none⟩ = some (.slice oi xss[j].length ci)∧Rd (RS S) w [.slice oi xss[j].length ci] xss[j]∧xss[j].length ≤ ci∧ci ≤ 9223372036854775807:=by
 rcases h.row with h|h
 ·subst h;exact absurd hk (Nat.not_lt_zero _)
 ·exact h
section
variable {α:Type} {R:Rep α} {w:World}
theorem yB.low {w w':World} {v':Value} {k n:Nat} {ds:List Value} {og og':Option Nat} {B:Nat} (h:yB w w' v' k n ds og og') (hB:B ≤ w.heap.size) (hog:∀ g,og = some g→B ≤ g) :
  (∀ g,og' = some g→B ≤ g)∧Below B w w':=by
 refine ⟨fun g hg => ?_,h.below hB hog⟩
 rcases h.2.2 with h3|⟨b,h3,hb⟩
 ·exact hog g (by rw [← h3];exact hg)
 ·rw [hg] at h3;cases h3;omega
theorem Own.rebuild {w w':World} {v:Value} {xs:List α} {ds:List Value} {F:List Nat} {og:Option Nat} {lo:Nat} (hel:ownL R w ds xs F) (hF:F.Nodup) (hlt:∀ b,b ∈ F→lo ≤ b)
  (hb:Below w.heap.size w w') (hrow:Row w' v R.k xs.length ds og) (hog:∀ g,og = some g→w.heap.size ≤ g) (hlo:lo ≤ w.heap.size):Own (RS R) lo w'.heap.size w' [v] xs:=by
 refine Own.mk' hrow (hel.frame fun b hbm => hb.block b (hel.lt b hbm)) ?_ ?_
 ·refine List.nodup_append.2 ⟨by cases og <;> simp,hF,fun b hb1 b' hb2 e => ?_⟩
  subst e
  have:=hog b (by simpa using hb1)
  have:=hel.lt b hb2
  omega
 ·intro b hbm
  rcases List.mem_append.1 hbm with hbm|hbm
  ·have e:og = some b:=by simpa using hbm
   exact ⟨Nat.le_trans hlo (hog b e),hrow.lt b e⟩
  ·exact ⟨hlt b hbm,Nat.lt_of_lt_of_le (hel.lt b hbm) hb.size⟩
theorem Own.setElem {v:Value} {xs:List α} {lo hi:Nat} (h:Own (RS R) lo hi w [v] xs) (hk:R.k = 1) (i:Nat) (hi':i < xs.length) :
  ∃ g cap a,v = .slice (some ⟨g,0,none⟩) xs.length cap∧xs.length ≤ cap∧cap ≤ 9223372036854775807∧lo ≤ g∧g < hi∧g < w.heap.size∧w.cell? ⟨g,i,none⟩ = some a∧Own R lo hi w [a] xs[i] ∧
   ∀ (w1:World) (y:α) (u:Value) (M hi2:Nat),Own R M hi2 w1 [u] y→hi ≤ M→M ≤ hi2→Below hi w w1→w1.cell? ⟨g,i,none⟩ = some a∧w1.frozen? ⟨g,i,none⟩ = false∧Own (RS R) lo hi2 (w1.setCell ⟨g,i,none⟩ u) [v] (xs.set i y)∧Chg lo hi w1 (w1.setCell ⟨g,i,none⟩ u):=by
 obtain ⟨og,ds,F,hrow,hel,hF,hlt⟩:=h.open
 obtain ⟨g,rfl⟩:=hrow.some_of hi'
 obtain ⟨cap,hv,hc1,hc2⟩:=hrow.slice
 obtain ⟨d1,c0,d2,F1,G,F2,rfl,rfl,hd1,hL1,hx,hL2⟩:=hel.split i hi'
 have la:=R.rd_len (R.own_rd hx)
 rw [hk] at la hd1
 rw [Nat.mul_one] at hd1
 match c0,la with
 | [a],_ =>
  have hg:=hlt g (by simp)
  have hgs:=hrow.lt g rfl
  have hcell:w.cell? ⟨g,i,none⟩ = some a:=hrow.cells i a (by rw [List.getElem?_append_right (by omega),hd1];simp)
  refine ⟨g,cap,a,hv,hc1,by unfold maxLen at hc2;omega,hg.1,hg.2,hgs,hcell,⟨G,hx,?_,fun b hb => hlt b (by simp [hb])⟩,?_⟩
  ·exact (List.nodup_append.1 (List.nodup_append.1 (List.nodup_append.1 hF).2.1).2.1).1
  intro w1 y u M hi2 hy hiM hM2 hbel
  obtain ⟨Gy,hGy,hGyn,hGyl⟩:=hy
  have hrow1:Row w1 v R.k xs.length (d1 ++ ([a] ++ d2)) (some g):=hrow.frame (fun g' hg' => by cases hg';exact hbel.block g hg.2)
  obtain ⟨s1,r1⟩:=hrow1.store i u
  have hset:(d1 ++ ([a] ++ d2)).set i u = d1 ++ ([u] ++ d2):=by
   rw [List.set_append_right _ _ (by omega),hd1,Nat.sub_self];rfl
  rw [hset] at s1
  have hne:∀ z,z ∈ F1 ++ (G ++ F2)→z ≠ g:=by
   intro z hz e;subst e
   exact (List.nodup_append.1 hF).2.2 z (by simp) z hz rfl
  have hfr:∀ z,z ∈ F1 ++ (G ++ F2)→(w1.setCell ⟨g,i,none⟩ u).heap[z]? = w.heap[z]?:=by
   intro z hz
   rw [heap_setCell_other _ ⟨g,i,none⟩ z u (hne z hz)]
   exact hbel.block z (hlt z (List.mem_append_right _ hz)).2
  have hGf:∀ z,z ∈ Gy→(w1.setCell ⟨g,i,none⟩ u).heap[z]? = w1.heap[z]?:=by
   intro z hz
   have:=(hGyl z hz).1
   exact heap_setCell_other _ ⟨g,i,none⟩ z u (by show z ≠ g;omega)
  have hjoin:=ownL.join (R:=R) hi' (hL1.frame fun z hz => hfr z (by simp [hz])) (R.own_frame hGy hGf) (hL2.frame fun z hz => hfr z (by simp [hz]))
  refine ⟨hrow1.cells i a (by rw [List.getElem?_append_right (by omega),hd1];simp),hrow1.frozen i,?_,Chg.of_grown r1 (fun z hz => by cases hz;exact hg)⟩
  refine Own.mk' (og:=some g) (ds:=d1 ++ ([u] ++ d2)) (by rw [List.length_set];exact s1) hjoin ?_ ?_
  ·have hb:(F1 ++ F2).Nodup:=(List.nodup_append.1 hF).2.1.sublist (List.Sublist.append (List.Sublist.refl _) (List.sublist_append_right _ _))
   have hb1:=List.nodup_append.1 hb
   have hab:∀ z,z ∈ Gy→z ∉ F1 ++ F2∧z ≠ g:=by
    intro z hz
    have h1:=(hGyl z hz).1
    refine ⟨fun hm => ?_,by omega⟩
    have:=(hlt z (by
     rcases List.mem_append.1 hm with hm|hm
     ·simp [hm]
     ·simp [hm])).2
    omega
   simp only [Option.toList_some,List.singleton_append,List.nodup_cons]
   constructor
   ·intro hm
    simp only [List.mem_append] at hm
    rcases hm with hm|hm|hm
    ·exact hne g (by simp [hm]) rfl
    ·exact (hab g hm).2 rfl
    ·exact hne g (by simp [hm]) rfl
   ·refine List.nodup_append.2 ⟨hb1.1,List.nodup_append.2 ⟨hGyn,hb1.2.1,fun z hz z' hz' e => ?_⟩,fun z hz z' hz' e => ?_⟩
    ·subst e;exact (hab z hz).1 (by simp [hz'])
    ·subst e
     rcases List.mem_append.1 hz' with hz'|hz'
     ·exact (hab z hz').1 (by simp [hz])
     ·exact hb1.2.2 z hz z hz' rfl
  ·intro z hz
   simp only [List.mem_append,Option.mem_toList,Option.some.injEq] at hz
   rcases hz with hz|hz|hz|hz
   ·subst hz;omega
   ·have:=hlt z (by simp [hz]);omega
   ·have:=hGyl z hz;omega
   ·have:=hlt z (by simp [hz]);omega
end
theorem Row.some_val {w:World} {k n:Nat} {ds:List Value} {og:Option Nat} {g m cap:Nat} (h:Row w (.slice (some ⟨g,0,none⟩) m cap) k n ds og):og = some g:=by
 rcases h.2 with ⟨e,_⟩|⟨g',c,cur,ty,e,rfl,_⟩
 ·cases e
 ·simp only [Value.slice.injEq,Option.some.injEq,Addr.mk.injEq,and_true] at e
  rw [e.1]
theorem Own.insRow {α:Type} {R:Rep α} {W:World} {xs:List α} {x:α} {u:Value} {lo M hi2 g cap:Nat} (ho:Own (RS R) lo M W [.slice (some ⟨g,0,none⟩) xs.length cap] xs) (hk:R.k = 1) (hM:M ≤ W.heap.size) (hlo:lo ≤ M)
  (hx:Own R M hi2 W [u] x) (j:Nat) (hj:j ≤ xs.length) :
  ∃ d1 d2,d1.length = j∧d2.length = xs.length - j∧(∀ u ∈ d1,u.oneCell' = true)∧(∀ u ∈ d2,u.oneCell' = true)∧u.oneCell' = true ∧
   (∀ w',Below W.heap.size W w'→(∀ i u,d1[i]? = some u→w'.cell? ⟨g,i,none⟩ = some u)∧(∀ i u,d2[i]? = some u→w'.cell? ⟨g,j + i,none⟩ = some u)) ∧
   (∀ w' v' og',Below W.heap.size W w'→Row w' v' 1 (xs.length + 1) (d1 ++ (u :: d2)) og'→(∀ b,og' = some b→W.heap.size ≤ b)→Own (RS R) lo w'.heap.size w' [v'] (xs.take j ++ x :: xs.drop j)):=by
 obtain ⟨og,ds,F,hrow,hel,hF,hlt⟩:=ho.open
 obtain rfl:=hrow.some_val
 have hel':=hel
 rw [← List.take_append_drop j xs] at hel'
 obtain ⟨d1,d2,F1,F2,rfl,rfl,h1,h2⟩:=ownL.unappend hel'
 obtain ⟨G,hG,hGn,hGl⟩:=hx
 have l1:d1.length = j:=by rw [h1.len,hk,List.length_take];omega
 have l2:d2.length = xs.length - j:=by rw [h2.len,hk,List.length_drop];omega
 refine ⟨d1,d2,l1,l2,h1.one,h2.one,R.rd_one (R.own_rd hG) u (by simp),fun w' hb => ?_,fun w' v' og' hb hr hog => ?_⟩
 ·have hg:=hrow.lt g rfl
  refine ⟨fun i u hi => ?_,fun i u hi => ?_⟩
  ·rw [hb.cell (p:=⟨g,i,none⟩) hg]
   exact hrow.cells i u (by rw [List.getElem?_append_left (List.getElem?_eq_some_iff.1 hi).1];exact hi)
  ·rw [hb.cell (p:=⟨g,j + i,none⟩) hg]
   refine hrow.cells (j + i) u ?_
   rw [List.getElem?_append_right (by omega),l1,show j + i - j = i by omega];exact hi
 ·have hn:=(List.nodup_append.1 hF).2.1
  have hn2:=List.nodup_append.1 hn
  refine Own.rebuild (w:=W) (ds:=d1 ++ (u :: d2)) (F:=F1 ++ (G ++ F2)) (h1.append ⟨[u],d2,G,F2,rfl,rfl,hG,h2⟩) ?_ ?_ hb ?_ hog (by omega)
  ·refine List.nodup_append.2 ⟨hn2.1,List.nodup_append.2 ⟨hGn,hn2.2.1,fun a ha b hb e => ?_⟩,fun a ha b hb e => ?_⟩
   ·subst e
    have:=hGl a ha;have:=hlt a (by simp [hb]);omega
   ·subst e
    rcases List.mem_append.1 hb with hb|hb
    ·have:=hGl a hb;have:=hlt a (by simp [ha]);omega
    ·exact hn2.2.2 a ha a hb rfl
  ·intro b hb
   simp only [List.mem_append] at hb
   rcases hb with hb|hb|hb
   ·exact (hlt b (by simp [hb])).1
   ·have:=(hGl b hb).1;omega
   ·exact (hlt b (by simp [hb])).1
  ·have e:(xs.take j ++ x :: xs.drop j).length = xs.length + 1:=by simp;omega
   rw [e,hk];exact hr
theorem ins_at {α:Type} {c:α→α→Int} {x:α}:∀ {l:List α} {k:Nat},k ≤ l.length→(∀ j (h:j < l.length),j < k→¬ c x l[j] < 0)→(∀ h:k < l.length,c x l[k] < 0)→ins c x l = l.take k ++ x :: l.drop k
 | [],k,_,_,_ => by simp [ins]
 | y :: l,0,_,_,h => by
  have:=h (by simp)
  simp only [List.getElem_cons_zero] at this
  simp [ins,this]
 | y :: l,k + 1,hk,h1,h2 => by
  have h0:=h1 0 (by simp) (by omega)
  simp only [List.getElem_cons_zero] at h0
  unfold ins
  rw [if_neg h0,ins_at (k:=k) (by simpa using hk) (fun j hj hjk => by have:=h1 (j + 1) (by simpa using hj) (by omega);simpa using this) (fun h => by have:=h2 (by simpa using h);simpa using this)]
  simp
end
section
def vT (P:Program) (g:Nat) (c:List Int→List Int→Int) (ok:List Int→Prop):Prop :=
 ∀ (w:World) (h1 h2:Value) (x y:List Int),Rd (RS RI) w [h1] x→Rd (RS RI) w [h2] y→ok x→ok y→Calls P g #[h1,h2] w (RetS w (.int .i64 (c x y)))
theorem vT.q {P:Program} {g:Nat} {c:List Int→List Int→Int} {ok:List Int→Prop} (h:vT P g c ok) {w:World} {h1 h2:Value} {x y:List Int} (r1:Rd (RS RI) w [h1] x) (r2:Rd (RS RI) w [h2] y) (o1:ok x) (o2:ok y) (n:Nat) :
  Calls P g #[h1,h2] (w.drewN n) fun e w'' => e = .returned (.int .i64 (c x y))∧∃ m,w'' = w.drewN m :=
 Calls.qS (h (w.drewN n) h1 h2 x y (r1.of_heap rfl) (r2.of_heap rfl) o1 o2)
theorem kX0 (g:Nat) (c:List Int→List Int→Int) (hc:Cmp c) (ok:List Int→Prop) (eg:∀ args w,(callFunc g args).run Tryz.prog w = .ok (.enter g args) w) (hcmp:vT Tryz.prog g c ok)
  (a b:Nat) (v:Value) (xs:List (List Int)) (lo hi:Nat) (w:World) (ho:Own (RS (RS RI)) lo hi w [v] xs) (hok:∀ x ∈ xs,ok x) (hab:a ≤ b) (hb:b ≤ xs.length) (hsz:xs.length ≤ 1000000000) :
  Calls Tryz.prog 241 #[v,.int .i64 a,.int .i64 b,.func (.func g) #[] #[]] w fun e w' => e = .returned (.tuple #[])∧∃ ys,PermIn a b xs ys∧SegOk c a b ys∧Own (RS (RS RI)) lo hi w' [v] ys∧Chg lo hi w w':=by
 obtain ⟨oa,cap,rfl,hv1,hv2⟩:=ho.val
 have mixed:Tryz.prog.follows Departure.mixedOrders = true:=by kernel_rfl
 have HC:=Lib.hid hc
 have HQ:=Lib.hid hcmp
 have HK:=Lib.hid hok
 have S0:Hid (Own (RS (RS RI)) lo hi w [.slice oa xs.length cap] xs):=ho
 clear hc hcmp hok ho
 go_enter Tryz.func241,Tryz.ntmps241
 go_wp2_with fail
 go_loopg [8] (b - a) (fun g1 vi wr => ∃ (i:Nat) (ys:List (List Int)),vi = .int .i64 i∧a < i∧i ≤ b + 1∧b + 1 - i ≤ g1 + 1∧Hid (PermIn a b xs ys∧SegOk c a i ys∧Own (RS (RS RI)) lo hi wr [.slice oa xs.length cap] ys∧Chg lo hi w wr))
 case atStart => exact ⟨a + 1,xs,by go_num,by omega,by omega,by omega,Lib.hid ⟨PermIn.refl _ _ _,fun p q _ _ h1 h2 h3 => by omega,S0.out,Chg.refl _ _ _⟩⟩
 case round =>
  clear S0
  obtain ⟨i,ys,rfl,hai,hib,hg1,HO⟩:=hrel
  by_cases hlt:i < b
  ·have hltz:(i:Int) < (b:Int):=by omega
   have HO2:Hid (PermIn a b xs ys∧SinkOk c a i i ys∧Own (RS (RS RI)) lo hi wr [.slice oa xs.length cap] ys∧Chg lo hi w wr):=Lib.hid ⟨HO.out.1,HO.out.2.1.sink,HO.out.2.2.1,HO.out.2.2.2⟩
   clear HO
   go_wp2_with fail
   go_loopg [9] i (fun g2 vj wr2 => ∃ (j:Nat) (zs:List (List Int)),vj = .int .i64 j∧a ≤ j∧j ≤ i∧j ≤ g2∧Hid (PermIn a b xs zs∧SinkOk c a i j zs∧Own (RS (RS RI)) lo hi wr2 [.slice oa xs.length cap] zs∧Chg lo hi w wr2))
   case atStart => exact ⟨i,ys,rfl,by omega,Nat.le_refl _,Nat.le_refl _,HO2⟩
   case round =>
    clear HO2
    obtain ⟨j,zs,rfl,haj,hji,hg2,HJ⟩:=hrel
    have hzl:zs.length = xs.length:=HJ.out.1.len
    have hjl:j < zs.length:=by omega
    by_cases hja:a < j
    ·have hjaz:(a:Int) < (j:Int):=by omega
     obtain ⟨jp,hjp⟩:∃ q,q + 1 = j:=⟨j - 1,by omega⟩
     subst hjp
     have hjad:decide ((jp:Int) + 1 > (a:Int)) = true:=decide_eq_true (by omega)
     have hjaz':(a:Int) < (jp:Int) + 1:=by omega
     obtain ⟨gb,cap',u1,u2,hv,_,_,hgb,k1,k2,f1,f2,r1,r2,k3,hsw,hch⟩:=HJ.out.2.2.1.swap (R:=RS RI) rfl jp (jp + 1) (Nat.lt_succ_self _) hjl
     rw [hzl] at hv
     simp only [Value.slice.injEq,true_and] at hv
     obtain ⟨rfl,rfl⟩:=hv
     have hq:=HQ.out.q r2 r1 (HK.out _ (HJ.out.1.perm.mem_iff.1 (List.getElem_mem _))) (HK.out _ (HJ.out.1.perm.mem_iff.1 (List.getElem_mem _)))
     have ea:((jp:Int) + 1).toNat = jp + 1:=by omega
     have pa:(0:Int) ≤ (jp:Int) + 1:=by omega
     have ba:(jp:Int) + 1 < (xs.length:Int):=by omega
     have ra:IntKind.i64.wrap ((jp:Int) + 1) = (jp:Int) + 1:=by rw [IntKind.wrap_i64];omega
     have ec:((jp:Int)).toNat = jp:=by omega
     have pc:(0:Int) ≤ (jp:Int):=by omega
     have bc:(jp:Int) < (xs.length:Int):=by omega
     have rc:IntKind.i64.wrap ((jp:Int)) = (jp:Int):=by rw [IntKind.wrap_i64];omega
     obtain ⟨d,hd⟩:∃ d,d = c zs[jp + 1] zs[jp]:=⟨_,rfl⟩
     rw [← hd] at hq
     have S3:Hid (Own (RS (RS RI)) lo hi (((wr.setCell ⟨gb,jp + 1,none⟩ u1).setCell ⟨gb,jp,none⟩ u2)) [.slice (some ⟨gb,0,none⟩) xs.length cap] (swpL zs jp (jp + 1))∧Chg lo hi wr ((wr.setCell ⟨gb,jp + 1,none⟩ u1).setCell ⟨gb,jp,none⟩ u2)):=Lib.hid ⟨hsw,hch⟩
     obtain ⟨o1,p1,rfl,_⟩:=r1.val
     obtain ⟨o2,p2,rfl,_⟩:=r2.val
     obtain ⟨l1,hl1⟩:∃ l,l = zs[jp].length:=⟨_,rfl⟩
     obtain ⟨l2,hl2⟩:∃ l,l = zs[jp + 1].length:=⟨_,rfl⟩
     rw [← hl1] at hq k1 k3 S3
     rw [← hl2] at hq k2 S3
     clear hsw hch r1 r2 hl1 hl2
     by_cases hlv:d < 0
     ·have hdd:decide (d < 0) = true:=decide_eq_true hlv
      have HD:=Lib.hid hd
      clear hd
      go_wp2_with fail
      go_quiet ((go_at_fn g;exact hq _))
      clear hq
      have k1':(wr.drewN nq).cell? ⟨gb,jp,none⟩ = some (.slice o1 l1 p1):=k1
      have k2':(wr.drewN nq).cell? ⟨gb,jp + 1,none⟩ = some (.slice o2 l2 p2):=k2
      have k3':((wr.drewN nq).setCell ⟨gb,jp + 1,none⟩ (.slice o1 l1 p1)).cell? ⟨gb,jp,none⟩ = some (.slice o1 l1 p1):=k3
      have f1':(wr.drewN nq).frozen? ⟨gb,jp,none⟩ = false:=f1
      have f2':(wr.drewN nq).frozen? ⟨gb,jp + 1,none⟩ = false:=f2
      have S4:Hid (Own (RS (RS RI)) lo hi ((((wr.drewN nq).setCell ⟨gb,jp + 1,none⟩ (.slice o1 l1 p1)).setCell ⟨gb,jp,none⟩ (.slice o2 l2 p2))) [.slice (some ⟨gb,0,none⟩) xs.length cap] (swpL zs jp (jp + 1))∧Chg lo hi w (((wr.drewN nq).setCell ⟨gb,jp + 1,none⟩ (.slice o1 l1 p1)).setCell ⟨gb,jp,none⟩ (.slice o2 l2 p2))):=Lib.hid ⟨S3.out.1.of_heap rfl,(HJ.out.2.2.2.trans S3.out.2).of_heap rfl rfl rfl rfl⟩
      clear k1 k2 k3 f1 f2 S3
      generalize wr.drewN nq = w2 at k1' k2' k3' f1' f2' S4 ⊢
      clear nq
      go_wp2_with fail
      go_big_region_o
      clear k1' k2' k3' f1' f2'
      go_wp2_with fail
      go_roundg jp
      case measure => omega
      case rel =>
       refine ⟨jp,swpL zs jp (jp + 1),by first|rfl|go_num|(congr 1;omega),by omega,by omega,Nat.le_refl _,Lib.hid ⟨HJ.out.1.trans (PermIn.swp zs jp (jp + 1) (Nat.lt_succ_self _) hjl (by omega) (by omega)),?_,S4.out.1.of_heap rfl,S4.out.2.of_heap rfl rfl rfl rfl⟩⟩
       exact HJ.out.2.1.swap (by omega) hji hjl (by have:=HD.out;simp only [Nat.add_sub_cancel];omega)
     ·have hdd:decide (d < 0) = false:=decide_eq_false hlv
      have HD:=Lib.hid hd
      clear hd
      go_wp2_with fail
      go_quiet ((go_at_fn g;exact hq _))
      go_wp2_with fail
      go_roundg (b - (i + 1))
      case measure => omega
      case rel =>
       refine ⟨i + 1,zs,by go_num,by omega,by omega,by omega,Lib.hid ⟨HJ.out.1,?_,HJ.out.2.2.1.of_heap rfl,HJ.out.2.2.2.of_heap rfl rfl rfl rfl⟩⟩
       exact HJ.out.2.1.done HC.out hjl (.inr (by have:=HD.out;simp only [Nat.add_sub_cancel];omega)) hji
    ·have hjaz:¬ (a:Int) < (j:Int):=by omega
     have hjad:decide ((j:Int) > (a:Int)) = false:=decide_eq_false (by omega)
     go_wp2_with fail
     go_quiet (fail)
     go_wp2_with fail
     go_roundg (b - (i + 1))
     case measure => omega
     case rel =>
      refine ⟨i + 1,zs,by go_num,by omega,by omega,by omega,Lib.hid ⟨HJ.out.1,?_,HJ.out.2.2.1.of_heap rfl,HJ.out.2.2.2.of_heap rfl rfl rfl rfl⟩⟩
      exact HJ.out.2.1.done HC.out hjl (.inl (by omega)) hji
  ·go_wp2_with fail
   go_end0
   refine ⟨rfl,ys,HO.out.1,fun p q hp hq h1 h2 h3 => HO.out.2.1 p q hp hq h1 h2 (by omega),HO.out.2.2.1,HO.out.2.2.2⟩
end
section
def Sorts (c:List Int→List Int→Int) (v:Value) (xs:List (List Int)) (lo hi:Nat) (w:World):Ending→World→Prop :=
 fun e w' => e = .returned (.tuple #[])∧Own (RS (RS RI)) lo hi w' [v] (sortC c xs)∧Chg lo hi w w'
theorem c_bitsLen64 (n:Nat) (hn:n ≤ 12) (w:World):Calls Tryz.prog 213 #[.int .u64 n] w fun e w' => (∃ k:Int,e = .returned (.int .i64 k))∧w = w':=by
 have h:n = 0 ∨ n = 1 ∨ n = 2 ∨ n = 3 ∨ n = 4 ∨ n = 5 ∨ n = 6 ∨ n = 7 ∨ n = 8 ∨ n = 9 ∨ n = 10 ∨ n = 11 ∨ n = 12:=by omega
 rcases h with rfl|rfl|rfl|rfl|rfl|rfl|rfl|rfl|rfl|rfl|rfl|rfl|rfl
 all_goals
  go_enter Tryz.func213,Tryz.ntmps213
  go_wp2_with fail
  go_ret
  exact ⟨⟨_,rfl⟩,rfl⟩
theorem c_bitsLen (n:Nat) (hn:n ≤ 12) (w:World):Calls Tryz.prog 160 #[.int .u64 n] w fun e w' => (∃ k:Int,e = .returned (.int .i64 k))∧w = w':=by
 have hb:=c_bitsLen64 n hn
 go_enter Tryz.func160,Tryz.ntmps160
 go_wp2_with (go_at_call 213;refine (hb _).mono ?_;rintro e w' ⟨⟨k,rfl⟩,rfl⟩)
 go_ret
 exact ⟨⟨_,rfl⟩,rfl⟩
theorem c_pdqsort (g:Nat) (c:List Int→List Int→Int) (hc:Cmp c) (ok:List Int→Prop) (eg:∀ args w,(callFunc g args).run Tryz.prog w = .ok (.enter g args) w) (hcmp:vT Tryz.prog g c ok)
  (v:Value) (xs:List (List Int)) (k:Int) (lo hi:Nat) (w:World) (ho:Own (RS (RS RI)) lo hi w [v] xs) (hok:∀ x ∈ xs,ok x) (hsz:xs.length ≤ 12) :
  Calls Tryz.prog 202 #[v,.int .i64 0,.int .i64 xs.length,.int .i64 k,.func (.func g) #[] #[]] w (Sorts c v xs lo hi w):=by
 have hi:=kX0 g c hc ok eg hcmp 0 xs.length v xs lo hi w ho hok (Nat.zero_le _) (Nat.le_refl _) (by omega)
 have HC:=Lib.hid hc
 clear hcmp hok ho eg hc
 go_enter Tryz.func202,Tryz.ntmps202
 go_wp2_with fail
 go_loopw [1,2] (fun a b wr => a = .int .i64 0∧b = .int .i64 xs.length∧wr = w) (fun _ _ _ => 0)
 case atStart => exact ⟨rfl,rfl,rfl⟩
 case round =>
  obtain ⟨rfl,rfl,rfl⟩:=hrel
  go_wp2_with (go_at_call 241;refine hi.mono ?_;rintro e w' ⟨rfl,ys,h1,h2,h3,h4⟩)
  go_end0
  refine ⟨rfl,?_,h4⟩
  rw [← xA0 HC.out h1.perm (h2.pairwise (by rw [h1.len];exact Nat.le_refl _))]
  exact h3
theorem c_SortFunc (g:Nat) (c:List Int→List Int→Int) (hc:Cmp c) (ok:List Int→Prop) (eg:∀ args w,(callFunc g args).run Tryz.prog w = .ok (.enter g args) w) (hcmp:vT Tryz.prog g c ok)
  (v:Value) (xs:List (List Int)) (lo hi:Nat) (w:World) (ho:Own (RS (RS RI)) lo hi w [v] xs) (hok:∀ x ∈ xs,ok x) (hsz:xs.length ≤ 12) :
  Calls Tryz.prog 156 #[v,.func (.func g) #[] #[]] w (Sorts c v xs lo hi w):=by
 obtain ⟨oa,cap,rfl,hv1,hv2⟩:=ho.val
 have hb:=c_bitsLen xs.length hsz
 have hp:=fun k => c_pdqsort g c hc ok eg hcmp _ xs k lo hi w ho hok hsz
 have hw:IntKind.u64.wrap (xs.length:Int) = xs.length:=by simp [IntKind.wrap,IntKind.bits,IntKind.signed];omega
 clear hcmp hok ho eg hc
 go_enter Tryz.func156,Tryz.ntmps156
 go_wp2_with (first|(go_at_call 160;refine (hb _).mono ?_;rintro e w' ⟨⟨k,rfl⟩,rfl⟩)|(go_at_call 202;refine (hp _).mono ?_;rintro e w' ⟨rfl,h1,h2⟩))
 go_end0
 exact ⟨rfl,h1,h2⟩
theorem c_stableCmp (g:Nat) (c:List Int→List Int→Int) (hc:Cmp c) (ok:List Int→Prop) (eg:∀ args w,(callFunc g args).run Tryz.prog w = .ok (.enter g args) w) (hcmp:vT Tryz.prog g c ok)
  (v:Value) (xs:List (List Int)) (lo hi:Nat) (w:World) (ho:Own (RS (RS RI)) lo hi w [v] xs) (hok:∀ x ∈ xs,ok x) (hsz:xs.length ≤ 19) :
  Calls Tryz.prog 214 #[v,.int .i64 xs.length,.func (.func g) #[] #[]] w (Sorts c v xs lo hi w):=by
 have hi:=kX0 g c hc ok eg hcmp 0 xs.length v xs lo hi w ho hok (Nat.zero_le _) (Nat.le_refl _) (by omega)
 have HC:=Lib.hid hc
 clear hcmp hok ho eg hc
 go_enter Tryz.func214,Tryz.ntmps214
 go_wp2_with fail
 go_loopw [7,8] (fun a b wr => a = .int .i64 0∧b = .int .i64 20∧wr = w) (fun _ _ _ => 0)
 case atStart => exact ⟨rfl,rfl,rfl⟩
 case round =>
  obtain ⟨rfl,rfl,rfl⟩:=hrel
  go_wp2_with (go_at_call 241;refine hi.mono ?_;rintro e w' ⟨rfl,ys,h1,h2,h3,h4⟩)
  go_loopw [6] (fun a wr => a = .int .i64 20∧wr = w') (fun _ _ => 0)
  case atStart => exact ⟨rfl,rfl⟩
  case round =>
   obtain ⟨rfl,rfl⟩:=hrel
   go_wp2_with fail
   go_end0
   refine ⟨rfl,?_,h4⟩
   rw [← xA0 HC.out h1.perm (h2.pairwise (by rw [h1.len];exact Nat.le_refl _))]
   exact h3
theorem c_SortStable (g:Nat) (c:List Int→List Int→Int) (hc:Cmp c) (ok:List Int→Prop) (eg:∀ args w,(callFunc g args).run Tryz.prog w = .ok (.enter g args) w) (hcmp:vT Tryz.prog g c ok)
  (v:Value) (xs:List (List Int)) (lo hi:Nat) (w:World) (ho:Own (RS (RS RI)) lo hi w [v] xs) (hok:∀ x ∈ xs,ok x) (hsz:xs.length ≤ 19) :
  Calls Tryz.prog 163 #[v,.func (.func g) #[] #[]] w (Sorts c v xs lo hi w):=by
 obtain ⟨oa,cap,rfl,hv1,hv2⟩:=ho.val
 have hp:=c_stableCmp g c hc ok eg hcmp _ xs lo hi w ho hok hsz
 clear hcmp hok ho eg hc
 go_enter Tryz.func163,Tryz.ntmps163
 go_wp2_with (go_at_call 214;refine hp.mono ?_;rintro e w' ⟨rfl,h1,h2⟩)
 go_end0
 exact ⟨rfl,h1,h2⟩
end
section
def Small (bs:List (List Int)):Prop:=∀ b ∈ bs,∀ x ∈ b,0 ≤ x∧x ≤ 1000000000
theorem qZ.small {t:List Int} (h:qZ t) (hl:t.length ≤ 1000000000):∀ x ∈ t,0 ≤ x∧x ≤ 1000000000:=by
 intro x hx
 obtain ⟨i,hi,rfl⟩:=List.getElem_of_mem hx
 have:=h.bd i hi
 omega
theorem Small.of_lev {bs:List (List Int)} (h:∀ b ∈ bs,qZ b) (hl:qQ bs ≤ 1000000000):Small bs:=fun b hb => (h b hb).small (Nat.le_trans (jK hb) hl)
theorem sumLen_take (bs:List (List Int)) (k:Nat):qQ (bs.take k) ≤ qQ bs:=by
 have h:qQ bs = qQ (bs.take k) + qQ (bs.drop k):=by rw [← kE,List.take_append_drop]
 omega
theorem kA0 (bs:List (List Int)) (k:Nat) (h:k < bs.length):qB (bs.take (k + 1)) = qB (bs.take k) ++ bs[k].map (· + 1):=by
 rw [List.take_succ_eq_append_getElem h,jR0]
theorem vW0 (bs:List (List Int)) (k:Nat) (h:k < bs.length):qQ (bs.take k) + bs[k].length ≤ qQ bs:=by
 have:=sumLen_take bs (k + 1)
 rw [List.take_succ_eq_append_getElem h,kE] at this
 simpa [qQ] using this
theorem kI0 (b:List Int) (m:Nat) (h:m < b.length):(b.take (m + 1)).map (· + 1) = (b.take m).map (· + 1) ++ [b[m] + 1]:=by
 rw [List.take_succ_eq_append_getElem h,List.map_append];rfl
theorem Own.lit1 {w:World} (e:TypeId) (lo:Nat) (x:Int) (hx:qH x) (h:lo ≤ w.heap.size):Own (RS RI) lo (w.heap.size + 1) (w.alloc (.cells #[.int .i64 x] e)) [.slice (some ⟨w.heap.size,0,none⟩) 1 1] [x] :=
 Row.OwnIh (og:=some w.heap.size) (by simpa using Row.lit w #[.int .i64 x] e 1 1 (by decide) (by simp)) (by simpa using hx) (fun g hg => by cases hg;omega)
theorem vY0 (v:Value) (bs:List (List Int)) (w:World) (h:Rd (RS (RS RI)) w [v] bs) (hs:Small bs) (hsz:qQ bs ≤ 1000000000) :
  Calls Tryz.prog 100 #[v] w (RetO (RS RI) w (qB bs)):=by
 obtain ⟨oa,cap,L⟩:=h.lists
 obtain rfl:=L.val
 have m1:=L.le;have m2:=L.capLe
 have HS:=Lib.hid hs
 have HL:=Lib.hid L
 clear hs L h
 go_enter Tryz.func100,Tryz.ntmps100
 go_wp2_with fail
 go_loopw [3,11] (fun o i wr => ∃ (k:Nat) (r:List Int),k ≤ bs.length∧i = .int .i64 k∧Hid (r = qB (bs.take k))∧(∃ oa cap,o = .slice oa r.length cap)∧Hid (Own (RS RI) w.heap.size wr.heap.size wr [o] r)∧Below w.heap.size w wr) (fun _ i _ => bs.length - (intOf i).toNat)
 case atStart => exact ⟨0,[0],Nat.zero_le _,rfl,Lib.hid rfl,⟨_,_,rfl⟩,Lib.hid ((Own.lit1 (w:=w) 2 w.heap.size 0 (by unfold qH;omega) (Nat.le_refl _)).top _ (by simp)),(Below.refl _ _).alloc (Nat.le_refl _) _⟩
 case round =>
  obtain ⟨k,r,hk,rfl,hr,⟨o1,cap1,rfl⟩,hown,hbel⟩:=hrel
  have hsz1:=hbel.size
  obtain ⟨wo,hwo⟩:∃ wo:World,wo = wr:=⟨_,rfl⟩
  subst hwo
  by_cases hlt:k < bs.length
  ·obtain ⟨b,off,rfl,hb,hc⟩:=HL.out.get hlt
   obtain ⟨oi,ci,g1,hrd,q1,q2⟩:=hc k hlt
   have g2:wo.cell? ⟨b,off + k,none⟩ = some (.slice oi bs[k].length ci):=(hbel.cell (p:=⟨b,off + k,none⟩) hb).trans g1
   obtain ⟨x,hx⟩:∃ x,x = bs[k]:=⟨_,rfl⟩
   have hsm:∀ y ∈ x,0 ≤ y∧y ≤ 1000000000:=by rw [hx];exact HS.out _ (List.getElem_mem hlt)
   have hlen:=vW0 bs k hlt
   have hrl:=xS (bs.take k)
   have hnx:=kA0 bs k hlt
   rw [← hx] at g2 hrd q1 hlen hnx
   obtain ⟨oa2,c2,I⟩:=hrd.ints
   rw [← hr.out] at hrl hnx
   have hval:=I.val
   simp only [Value.slice.injEq,true_and] at hval
   obtain ⟨rfl,rfl⟩:=hval
   have HI:=Lib.hid I
   have HN:=Lib.hid hnx
   have HX:=Lib.hid hx
   have hrb:r.length + x.length ≤ 1000000001:=by omega
   clear hc g1 hx hrd I hnx hrl hlen
   go_wp2_with fail
   go_loopw [3,17] (fun o i wr => ∃ (m:Nat) (z:List Int),m ≤ x.length∧i = .int .i64 m∧Hid (z = r ++ (x.take m).map (· + 1))∧(∃ oa cap,o = .slice oa z.length cap)∧Hid (Own (RS RI) w.heap.size wr.heap.size wr [o] z)∧Below w.heap.size w wr) (fun _ i _ => x.length - (intOf i).toNat)
   case atStart => exact ⟨0,r,Nat.zero_le _,rfl,Lib.hid (by simp),⟨o1,cap1,rfl⟩,hown,hbel⟩
   case round =>
    obtain ⟨m,z,hm,rfl,hz,⟨o2,cap2,rfl⟩,hown2,hbel2⟩:=hrel
    have hsz2:=hbel2.size
    by_cases hlt2:m < x.length
    ·obtain ⟨b2,off2,rfl,hb2,hc2⟩:=HI.out.get hlt2
     have g3:wr.cell? ⟨b2,off2 + m,none⟩ = some (.int .i64 x[m]):=(hbel2.cell (p:=⟨b2,off2 + m,none⟩) hb2).trans (hc2 m hlt2)
     have hy:=hsm x[m] (List.getElem_mem hlt2)
     obtain ⟨y1,y2⟩:=hy
     have hms:=kI0 x m hlt2
     obtain ⟨y,hy⟩:∃ y,y = x[m]:=⟨_,rfl⟩
     rw [← hy] at g3 y1 y2 hms
     have hll:z.length ≤ 1000000002:=by rw [hz.out];simp;omega
     have hw1:IntKind.i64.wrap (y + 1) = y + 1:=IntWalk.i64_in _ (by omega)
     have HM:=Lib.hid hms
     clear hc2 hy hms hsm
     go_wp2_with (at_builtin;refine yP (o:=⟨some 25,_,_,_,_,_⟩) ?_)
     refine jA.go ?_
     refine jT0 (o:=⟨some 25,_,_,_,_,_⟩) (w:=wr) (R:=RI) rfl _ _ 24 rfl 2 (.int .i64 0) 1 8 tI64 rfl (.slice o2 z.length cap2) z (y + 1) [.int .i64 (y + 1)] w.heap.size wr.heap.size wr.heap.size rfl hown2.out (Own.int ⟨by omega,by omega⟩) (Nat.le_refl _) hsz2 2 rfl rfl (by omega) (by omega) ?_
     intro oa1 cap1 w1 hown1 c1a c1b hbel1
     have hb3:=hbel2.trans hbel1
     obtain ⟨z',hz'⟩:∃ z',z' = z ++ [y + 1]:=⟨_,rfl⟩
     have HZ:Hid (z' = r ++ (x.take (m + 1)).map (· + 1)):=Lib.hid (by rw [hz',hz.out,HM.out,List.append_assoc])
     have e1:z.length + 1 = z'.length:=by rw [hz'];simp
     rw [← hz',e1] at hown1
     have HO1:Hid (Own (RS RI) w.heap.size w1.heap.size w1 [.slice oa1 z'.length cap1] z'):=hown1
     rw [e1]
     clear hown1 hbel1 hown2 hown e1 hz'
     go_wp2_with fail
     go_roundw
     case rel => exact ⟨m + 1,z',by omega,by go_num,HZ,⟨_,_,rfl⟩,HO1,hb3⟩
     case measure => simp [intOf];omega
    ·have HZ:Hid (z = qB (bs.take (k + 1))):=Lib.hid (by rw [HN.out,hz.out,List.take_of_length_le (by omega)])
     go_wp2_with fail
     go_roundw
     case rel => exact ⟨k + 1,z,by omega,by go_num,HZ,⟨_,_,rfl⟩,hown2,hbel2⟩
     case measure => simp [intOf];omega
  ·have hfin:bs.take k = bs:=List.take_of_length_le (by omega)
   go_wp2_with fail
   go_ret
   exact ⟨_,rfl,by rw [← hfin,← hr.out];exact hown.out,hbel⟩
theorem map_take_drop_set {t:List (List Int)} (f:List Int→List Int) (k:Nat) (h:k < t.length):((t.take k).map f ++ t.drop k).set k (f t[k]) = (t.take (k + 1)).map f ++ t.drop (k + 1):=by
 rw [List.set_append_right _ _ (by simp;omega)]
 have e:k - ((t.take k).map f).length = 0:=by simp;omega
 rw [e,List.drop_eq_getElem_cons h,List.set_cons_zero,List.take_succ_eq_append_getElem h,List.map_append]
 simp
theorem brs_few {t:List Int} (h:qZ t):(brs t).length + 1 ≤ t.length:=by
 have h1:=kG h
 have:∀ bs:List (List Int),(∀ b ∈ bs,qZ b)→bs.length ≤ qQ bs:=by
  intro bs
  induction bs with
  | nil => intro _;simp [qQ]
  | cons b bs ih =>
   intro hb
   have:=ih (fun c hc => hb c (by simp [hc]))
   have:=(hb b (by simp)).pos
   simp only [qQ,List.map_cons,List.sum_cons,List.length_cons] at *
   omega
 have:=this (brs t) (jC h)
 omega
theorem kV0:∀ (n:Nat) (v:Value) (t:List Int) (w:World),Rd (RS RI) w [v] t→qZ t→t.length ≤ n→t.length ≤ 13 →
  Calls Tryz.prog 91 #[v] w (RetO (RS RI) w (canon t)):=by
 intro n
 induction n with
 | zero => intro v t w h hl hn h13;have:=hl.pos;omega
 | succ n ih =>
  intro v t w h hl hn h13
  have hb:=xB0 v t w h hl (by omega)
  have eg:=enters (P:=Tryz.prog) (f:=157) Tryz.func157 (by kernel_rfl) rfl
  have hask:vT Tryz.prog 157 cmpD (fun _ => True):=fun w h1 h2 x y r1 r2 _ _ => c_impl_canonical1 h1 h2 x y w r1 r2
  have EG:=Lib.hid eg
  have HA:=Lib.hid hask
  have HL:=Lib.hid hl
  have IH:=Lib.hid ih
  have hfew:=brs_few hl
  have hbl:(brs t).length ≤ 12:=by omega
  clear eg hask h hl ih
  go_enter Tryz.func91,Tryz.ntmps91
  go_wp2_with (go_at_call 103;refine hb.mono ?_;rintro e w1 ⟨u,rfl,o1,b1⟩;obtain ⟨oa,cap,rfl,l1,l2⟩:=o1.val)
  clear hb
  have hsz1:=b1.size
  have hO1:Hid (Own (RS (RS RI)) w.heap.size w1.heap.size w1 [.slice oa (brs t).length cap] (brs t)):=o1
  clear o1
  go_loopw [10] (fun i wr => ∃ k:Nat,k ≤ (brs t).length∧i = .int .i64 k∧Hid (Own (RS (RS RI)) w.heap.size wr.heap.size wr [.slice oa (brs t).length cap] (((brs t).take k).map canon ++ (brs t).drop k))∧Below w.heap.size w wr) (fun i _ => (brs t).length - (intOf i).toNat)
  case atStart => exact ⟨0,Nat.zero_le _,rfl,by simpa using hO1,b1⟩
  case round =>
   obtain ⟨k,hk,rfl,hown,hbel⟩:=hrel
   have hsz2:=hbel.size
   clear hO1
   by_cases hlt:k < (brs t).length
   ·obtain ⟨g,cap',a,hv,_,_,hg1,hg2,hg3,hcell,hel,hK⟩:=hown.out.setElem (R:=RS RI) rfl k (by simp;omega)
    have hxk:(((brs t).take k).map canon ++ (brs t).drop k)[k]'(by simp;omega) = (brs t)[k]:=by
     rw [List.getElem_append_right (by simp;omega)]
     simp [List.getElem_drop]
     congr 1;omega
    rw [hxk] at hel
    have hlk:((List.take k (brs t)).map canon ++ (brs t).drop k).length = (brs t).length:=by simp;omega
    rw [hlk] at hv
    simp only [Value.slice.injEq,true_and] at hv
    obtain ⟨rfl,rfl⟩:=hv
    obtain ⟨oi,ci,rfl,_⟩:=hel.val
    have hmem:=List.getElem_mem hlt
    have hshort:=yN HL.out _ hmem
    have hc:=IH.out (.slice oi (brs t)[k].length ci) (brs t)[k] wr hel.rd (jC HL.out _ hmem) (by omega) (by omega)
    have hset:=map_take_drop_set canon k hlt
    have HSET:=Lib.hid hset
    have HK:=Lib.hid hK
    obtain ⟨x,hx⟩:∃ x,x = (brs t)[k]:=⟨_,rfl⟩
    rw [← hx] at hc hcell HSET hshort
    clear hK hset hxk hlk hel hx hmem
    go_wp2_with (go_at_call 91;refine hc.mono ?_;rintro e w2 ⟨u,rfl,o2,b2⟩;obtain ⟨ou,cu,rfl,lu1,lu2⟩:=o2.val;obtain ⟨f1,f2,f3,f4⟩:=HK.out w2 (canon x) (.slice ou (canon x).length cu) wr.heap.size w2.heap.size o2 (Nat.le_refl _) b2.size b2;have HF:=Lib.hid (show Own (RS (RS RI)) w.heap.size w2.heap.size (w2.setCell ⟨g,k,none⟩ (.slice ou (canon x).length cu)) [.slice (some ⟨g,0,none⟩) (brs t).length cap] (((brs t).take (k + 1)).map canon ++ (brs t).drop (k + 1)) by rw [← HSET.out];exact f3);have hb3:Below w.heap.size w w2:=hbel.trans (b2.mono hsz2);have hb4:=hb3.setCell (p:=⟨g,k,none⟩) hg1 (.slice ou (canon x).length cu);clear f3 f4 o2 hc)
    go_roundw
    case rel => exact ⟨k + 1,by omega,by go_num,Lib.hid (HF.out.top _ (by simp)),hb4⟩
    case measure => simp [intOf];omega
   ·have hfin:((brs t).take k).map canon ++ (brs t).drop k = (brs t).map canon:=by
     rw [List.take_of_length_le (by omega),List.drop_of_length_le (by omega),List.append_nil]
    rw [hfin] at hown
    have hml:((brs t).map canon).length = (brs t).length:=by simp
    have hs:=c_SortFunc 157 cmpD cmpD_cmp (fun _ => True) EG.out HA.out _ ((brs t).map canon) w.heap.size wr.heap.size wr hown.out (fun _ _ => trivial) (by omega)
    have hlev:∀ b ∈ sortC cmpD ((brs t).map canon),qZ b:=by
     intro b hb
     rw [yW,List.mem_map] at hb
     obtain ⟨c,hc,rfl⟩:=hb
     exact xG (jC HL.out c hc)
    have hsum:qQ (sortC cmpD ((brs t).map canon)) ≤ 1000000000:=by
     have:=xS (sortC cmpD ((brs t).map canon))
     rw [← kY HL.out,wX HL.out] at this
     omega
    have HV:=Lib.hid hlev
    have HCE:=Lib.hid (kY HL.out)
    clear hlev hfin hown
    go_wp2_with (go_at_call 156;refine hs.mono ?_;rintro e w3 ⟨rfl,o3,ch3⟩)
    have hb3:Below w.heap.size w w3:=hbel.trans (ch3.below (Nat.le_refl _) hsz2)
    have hr:=vY0 _ _ w3 o3.rd (Small.of_lev HV.out hsum) hsum
    have hsz3:=hb3.size
    clear hs o3 ch3
    go_wp2_with (go_at_call 100;refine hr.mono ?_;rintro e w4 ⟨u,rfl,o4,b4⟩)
    go_ret
    refine ⟨_,rfl,?_,hb3.trans (b4.mono hsz3)⟩
    rw [HCE.out]
    exact o4.mono hsz3 (Nat.le_refl _)
end
section
theorem kB0 (v:Value) (t:List Int) (w:World) (h:Rd (RS RI) w [v] t) (hl:qZ t) (hsz:t.length ≤ 1000000000) :
  Calls Tryz.prog 230 #[v] w (RetO (RS (RS RI)) w (brs t)):=by
 obtain ⟨oa,c1,I1⟩:=h.ints
 obtain rfl:=I1.val
 have m1:=I1.le;have m2:=I1.capLe
 unfold maxLen at m2
 have hp:=hl.pos
 obtain ⟨b,off,rfl,hb,hc⟩:=I1.get hp
 go_enter Tryz.func230,Tryz.ntmps230
 go_wp2_with fail
 go_loopw [3,4] (fun o i wr => ∃ k:Nat,k + 1 ≤ t.length∧i = .int .i64 (k + 1)∧(∃ oa cap,o = .slice oa (brTo t k).length cap)∧Own (RS (RS RI)) w.heap.size wr.heap.size wr [o] (brTo t k)∧Below w.heap.size w wr) (fun _ i _ => t.length + 1 - (intOf i).toNat)
 case atStart => exact ⟨0,hp,rfl,⟨_,_,rfl⟩,Own.empty (R:=RS RI) (w:=w) 24 w.heap.size (Nat.le_refl _) |>.top _ (by simp),(Below.refl _ _).alloc (Nat.le_refl _) _⟩
 case round =>
  obtain ⟨k,hk,rfl,⟨oa,cap,rfl⟩,hown,hbel⟩:=hrel
  have hsz1:=hbel.size
  by_cases hlt:k + 1 < t.length
  ·have g1:wr.cell? ⟨b,off + (k + 1),none⟩ = some (.int .i64 t[k + 1]):=(hbel.cell (p:=⟨b,off + (k + 1),none⟩) hb).trans (hc (k + 1) hlt)
   have hbd:=hl.bd (k + 1) hlt
   obtain ⟨q1,q2⟩:=hbd
   have hs1:=hl.succ hlt
   obtain ⟨q3,q4⟩:=hs1
   have hnl:=brTo_len t k
   by_cases he:t[k + 1] = 1
   ·have heb:(t[k + 1] == 1) = true:=by simp [he]
    have hnext:brTo t (k + 1) = (brTo t k ++ [[]]).set (brTo t k).length (([]:List Int) ++ [t[k + 1] - 1]):=by
     rw [xN t k hlt,he,vS];simp
    have Hn:=Lib.hid hnext
    clear hc he hnext
    have hownA:=hown.below (w':=wr.alloc (.cells #[] 2)) ((Below.refl wr.heap.size wr).alloc (Nat.le_refl _) _) (Nat.le_refl _)
    have hnew:=Own.empty (R:=RI) (w:=wr) 2 wr.heap.size (Nat.le_refl _)
    go_wp2_with (at_builtin;refine jT0 (o:=⟨some 21,_,_,_,_,_⟩) (w:=wr.alloc (.cells #[] 2)) rfl _ _ 36 rfl 24 (.slice none 0 0) 1 24 tI64S rfl _ (brTo t k) [] [.slice (some ⟨wr.heap.size,0,none⟩) 0 0] w.heap.size wr.heap.size (wr.heap.size + 1) rfl hownA hnew (by simp) hsz1 24 rfl (by simp) (by omega) (by omega) ?_;intro oa1 cap1 w1 hown1 c1a c1b hbel1;refine jA.out ?_)
    have hbel2:=hbel.trans ((((Below.refl w.heap.size wr).alloc hsz1 _).trans hbel1))
    have hsz2:=hbel2.size
    have g2:=(hbel2.cell (p:=⟨b,off + (k + 1),none⟩) hb).trans (I1.row.resolve_left (by intro e;rw [e] at hp;simp at hp) |> fun ⟨b',o',e,_,h⟩ => by cases e;exact h (k + 1) hlt)
    obtain ⟨g,cap2,h0,m,ds,og,hv,hg1,hg2,hcell,hr0,hm,hog,hK⟩:=Own.inner hown1 (brTo t k).length (by simp) ((brTo t k).length + 1) (by simp)
    simp only [Value.slice.injEq,true_and] at hv
    obtain ⟨rfl,rfl⟩:=hv
    have hm0:m = 0:=by rw [hm];simp
    subst hm0
    have HK:=Lib.hid hK
    have hi1:(0:Int) ≤ (k:Int) + 1:=by omega
    have hi2:(k:Int) + 1 < (t.length:Int):=by omega
    have hi3:(0:Int) ≤ ((brTo t k).length:Int):=by omega
    have hi4:((brTo t k).length:Int) < ((brTo t k).length:Int) + 1:=by omega
    have hi5:((k:Int) + 1).toNat = k + 1:=by omega
    clear hK hm g1 hbel1 hbel hownA hnew
    refine jA.go ?_
    go_wp2_with fail
    have hwr:IntKind.i64.wrap (t[k + 1] - 1) = t[k + 1] - 1:=IntWalk.i64_in _ (by omega)
    go_region_law ((refine step_append1 (w:=w1) (by rfl) _ _ 24 (by rfl) 2 (.int .i64 0) 1 8 tI64 h0 0 ds og (by rfl) hr0 2 [.int .i64 (t[k + 1] - 1)] (by rfl) (by simp) (by rfl) (by simp [Value.oneCell']) (by omega) (by unfold maxLen;omega) ⟨rfl,rfl,rfl,rfl⟩ ?_;intro h' w2 og' happ;obtain ⟨f1,f2,f3,f4⟩:=HK.out (t[k + 1] - 1) [.int .i64 (t[k + 1] - 1)] w1.heap.size w1.heap.size h' w2 og' (Own.int ⟨by omega,by omega⟩) (Nat.le_refl _) happ;obtain ⟨oa',cap',rfl,_⟩:=happ.1.val))
    all_goals
     have f5:=hbel2.trans (f4 hsz2)
     clear f4 happ hwr
     simp only [List.getElem_append_right (Nat.le_refl _),Nat.sub_self,List.getElem_singleton] at f3
     rw [← Hn.out] at f3
     simp only [Nat.zero_add] at f1 f2 f3 f5
     go_wp2_with fail
     go_roundw
     case rel => exact ⟨k + 1,by omega,by go_num,⟨some ⟨g,0,none⟩,cap1,by rw [Hn.out];simp⟩,f3,f5⟩
     case measure => simp [intOf];omega
   ·have heb:(t[k + 1] == 1) = false:=by simp [he]
    have hk0:0 < k:=by
     rcases Nat.eq_zero_or_pos k with rfl|h
     ·have h0:=hl.zero hp
      simp only [Nat.zero_add] at q3 q4 he
      omega
     ·exact h
    have hpos:0 < (brTo t k).length:=by
     obtain ⟨k',rfl⟩:∃ k',k = k' + 1:=⟨k - 1,by omega⟩
     exact jX0 hl k' (by omega)
    have hnext:brTo t (k + 1) = (brTo t k).set ((brTo t k).length - 1) ((brTo t k)[(brTo t k).length - 1] ++ [t[k + 1] - 1]):=by
     rw [xN t k hlt,qK0 _ _ he hpos]
    have Hn:=Lib.hid hnext
    have hidx:(brTo t k).length - 1 < (brTo t k).length:=by omega
    have hea:=jM0 t k ((brTo t k).length - 1) hidx
    clear hc he hnext
    obtain ⟨g,cap2,h0,m,ds,og,hv,hg1,hg2,hcell,hr0,hm,hog,hK⟩:=Own.inner hown ((brTo t k).length - 1) hidx _ rfl
    obtain ⟨n,hn⟩:∃ n,(brTo t k).length = n + 1:=⟨(brTo t k).length - 1,by omega⟩
    simp only [Value.slice.injEq,true_and] at hv
    obtain ⟨rfl,rfl⟩:=hv
    have HK:=Lib.hid hK
    have Hnn:=Lib.hid hn
    have hml:m ≤ k:=by omega
    have en:(brTo t k).length - 1 = n:=by omega
    rw [en] at hcell
    rw [hn]
    have Hen:=Lib.hid en
    have hnb:n < 1000000000:=by omega
    have hi1:(0:Int) ≤ (k:Int) + 1:=by omega
    have hi2:(k:Int) + 1 < (t.length:Int):=by omega
    have hi3:(0:Int) ≤ (n:Int):=by omega
    have hi4:(n:Int) < (n:Int) + 1:=by omega
    have hi5:((k:Int) + 1).toNat = k + 1:=by omega
    clear hK hm hn en hea
    go_wp2_with fail
    have hwr:IntKind.i64.wrap (t[k + 1] - 1) = t[k + 1] - 1:=IntWalk.i64_in _ (by omega)
    go_region_law ((refine step_append1 (w:=wr) (by rfl) _ _ 24 (by rfl) 2 (.int .i64 0) 1 8 tI64 h0 m ds og (by rfl) hr0 2 [.int .i64 (t[k + 1] - 1)] (by rfl) (by simp) (by rfl) (by simp [Value.oneCell']) (by omega) (by unfold maxLen;omega) ⟨rfl,rfl,rfl,rfl⟩ ?_;intro h' w2 og' happ;obtain ⟨f1,f2,f3,f4⟩:=HK.out (t[k + 1] - 1) [.int .i64 (t[k + 1] - 1)] wr.heap.size wr.heap.size h' w2 og' (Own.int ⟨by omega,by omega⟩) (Nat.le_refl _) happ;obtain ⟨oa',cap',rfl,_⟩:=happ.1.val;rw [Hen.out] at f1 f2))
    all_goals
     have f5:=hbel.trans (f4 hsz1)
     clear f4 happ hwr
     rw [← Hn.out] at f3
     rw [Hen.out] at f3 f5
     go_wp2_with fail
     go_roundw
     case rel => exact ⟨k + 1,by omega,by go_num,⟨some ⟨g,0,none⟩,cap,by rw [Hn.out];simp [Hnn.out]⟩,by rw [← Hnn.out];exact f3,f5⟩
     case measure => simp [intOf];omega
  ·have hfin:brTo t k = brs t:=jH0 t k (by omega)
   rw [hfin] at hown
   have Hfin:=Lib.hid hfin
   clear hfin
   go_wp2_with fail
   go_ret
   exact ⟨_,rfl,by rw [Hfin.out];exact hown,hbel⟩
end
section
theorem sortC_take_succ {t:List (List Int)} (f:List Int→List Int) (k:Nat) (h:k < t.length):sortC cmpD ((t.take (k + 1)).map f) = ins cmpD (f t[k]) (sortC cmpD ((t.take k).map f)):=by
 rw [List.take_succ_eq_append_getElem h,List.map_append,List.map_cons,List.map_nil,sortC_snoc]
theorem kL0:∀ (n:Nat) (v:Value) (t:List Int) (w:World),Rd (RS RI) w [v] t→qZ t→t.length ≤ n→t.length ≤ 1000000 →
  Calls Tryz.prog 186 #[v] w (RetO (RS RI) w (canon t)):=by
 intro n
 induction n with
 | zero => intro v t w h hl hn h13;have:=hl.pos;omega
 | succ n ih =>
  intro v t w h hl hn h13
  have hb:=kB0 v t w h hl (by omega)
  have HL:=Lib.hid hl
  have IH:=Lib.hid ih
  have hfew:=brs_few hl
  have hbl:(brs t).length ≤ 1000000:=by omega
  clear h hl ih
  go_enter Tryz.func186,Tryz.ntmps186
  go_wp2_with (go_at_call 230;refine hb.mono ?_;rintro e w1 ⟨u,rfl,o1,b1⟩;obtain ⟨oa,cap,rfl,l1,l2⟩:=o1.val)
  clear hb
  have hsz1:=b1.size
  have hO1:Hid (Own (RS (RS RI)) w.heap.size w1.heap.size w1 [.slice oa (brs t).length cap] (brs t)):=o1
  clear o1
  go_loopw [4,5] (fun o i wr => ∃ (k:Nat) (ys:List (List Int)),k ≤ (brs t).length∧i = .int .i64 k∧Hid (ys = sortC cmpD (((brs t).take k).map canon))∧Hid (ys.length = k)∧(∃ g cap,o = .slice (some ⟨g,0,none⟩) ys.length cap)∧Hid (Own (RS (RS RI)) w1.heap.size wr.heap.size wr [o] ys)∧Below w1.heap.size w1 wr) (fun _ i _ => (brs t).length - (intOf i).toNat)
  case atStart => exact ⟨0,[],Nat.zero_le _,rfl,Lib.hid (by simp [sortC]),Lib.hid rfl,⟨_,_,rfl⟩,Lib.hid ((Own.empty (R:=RS RI) (w:=w1) 24 w1.heap.size (Nat.le_refl _)).top _ (by simp)),(Below.refl _ _).alloc (Nat.le_refl _) _⟩
  case round =>
   obtain ⟨k,ys,hk,rfl,hys,Hyl,⟨g0,cap0,rfl⟩,hown,hbel⟩:=hrel
   have hsz2:=hbel.size
   obtain ⟨wo,hwo⟩:∃ wo:World,wo = wr:=⟨_,rfl⟩
   subst hwo
   by_cases hlt:k < (brs t).length
   ·have hO2:=hO1.out.below hbel (Nat.le_refl _)
    obtain ⟨g,cap',h0,hv,q1,q2,hg1,hg2,hcell,hel⟩:=hO2.elem k hlt
    simp only [Value.slice.injEq,true_and] at hv
    obtain ⟨rfl,rfl⟩:=hv
    obtain ⟨oi,ci,rfl,_⟩:=hel.val
    have hmem:=List.getElem_mem hlt
    have hshort:=yN HL.out _ hmem
    have hc:=IH.out (.slice oi (brs t)[k].length ci) (brs t)[k] wo hel.rd (jC HL.out _ hmem) (by omega) (by omega)
    have hst:=sortC_take_succ canon k hlt
    rw [← hys.out] at hst
    have HST:=Lib.hid hst
    obtain ⟨x,hx⟩:∃ x,x = canon (brs t)[k]:=⟨_,rfl⟩
    rw [← hx] at hc HST
    obtain ⟨xl,hxl⟩:∃ xl,xl = (brs t)[k].length:=⟨_,rfl⟩
    rw [← hxl] at hc hcell hshort
    have HX:=Lib.hid hx
    clear hst hel hmem hO2 hxl hx
    go_wp2_with (go_at_call 186;refine hc.mono ?_;rintro e w2 ⟨u,rfl,o2,b2⟩;obtain ⟨ou,cu,rfl,lu1,lu2⟩:=o2.val)
    have hown2:=hown.out.below b2 (Nat.le_refl _)
    have HO2:=Lib.hid hown2
    have HP:=Lib.hid o2
    have hbel2:=hbel.trans (b2.mono hsz2)
    have hsz3:=b2.size
    clear hown2 o2 hc hcell hown b2
    go_loopw [7] (fun i wr => ∃ (j:Nat),j ≤ ys.length∧i = .int .i64 j∧Hid (∀ q (h:q < ys.length),q < j→¬ cmpD x ys[q] < 0)∧∃ n,wr = w2.drewN n) (fun i _ => ys.length - (intOf i).toNat)
    case atStart => exact ⟨0,Nat.zero_le _,rfl,Lib.hid (fun q _ h => by omega),0,rfl⟩
    case round =>
     obtain ⟨j,hj,rfl,hall,nd,rfl⟩:=hrel
     have HO3:Hid (Own (RS (RS RI)) w1.heap.size wo.heap.size (w2.drewN nd) [.slice (some ⟨g0,0,none⟩) ys.length cap0] ys):=HO2.out.of_heap rfl
     have HP3:Hid (Own (RS RI) wo.heap.size w2.heap.size (w2.drewN nd) [.slice ou x.length cu] x):=HP.out.of_heap rfl
     have hbel3:Below w1.heap.size w1 (w2.drewN nd):=hbel2.trans (Below.drewN _ _ _)
     have hsz4:w2.heap.size = (w2.drewN nd).heap.size:=rfl
     by_cases hjl:j < ys.length
     ·obtain ⟨g',cap',h0,hv,q1',q2',hg1',hg2',hcell,hel⟩:=HO3.out.elem j hjl
      simp only [Value.slice.injEq,true_and] at hv
      obtain ⟨e1,e2⟩:=hv
      simp only [Option.some.injEq,Addr.mk.injEq,and_true] at e1
      subst e1;subst e2
      obtain ⟨oj,cj,rfl,_⟩:=hel.val
      have hls:=kQ0 _ _ ys[j] x (w2.drewN nd) hel.rd HP3.out.rd
      obtain ⟨yl,hyl'⟩:∃ yl,yl = ys[j].length:=⟨_,rfl⟩
      rw [← hyl'] at hls hcell
      clear hel hyl'
      by_cases hle:cmpL ys[j] x < 0
      ·have hd:decide (cmpL ys[j] x < 0) = true:=decide_eq_true hle
       rw [hd] at hls
       have HE:Hid (ins cmpD x ys = ys.take j ++ x :: ys.drop j):=Lib.hid (ins_at hj hall.out (fun _ => hle))
       clear hd hle
       go_wp2_with (first|(go_at_call 190;refine hls.mono ?_;rintro e w' ⟨rfl,nn,rfl⟩)|(at_builtin;refine yP (o:=⟨some 46,_,_,_,_,_⟩) ?_))
       refine jA.go ?_
       have HO4:Own (RS (RS RI)) w1.heap.size wo.heap.size (w2.drewN (nd + nn)) [.slice (some ⟨g0,0,none⟩) ys.length cap0] ys:=HO2.out.of_heap rfl
       have HP4:Own (RS RI) wo.heap.size w2.heap.size (w2.drewN (nd + nn)) [.slice ou x.length cu] x:=HP.out.of_heap rfl
       have hbel4:Below w1.heap.size w1 (w2.drewN (nd + nn)):=hbel2.trans (Below.drewN _ _ _)
       have hsz5:wo.heap.size ≤ (w2.drewN (nd + nn)).heap.size:=hsz3
       have hle4:=HO4.val
       obtain ⟨d1,d2,t1l,t2l,t1,t2,t3,hcl,hmk⟩:=HO4.insRow (R:=RS RI) rfl hsz5 hsz2 HP4 j hj
       rw [← HE.out,← HST.out] at hmk
       obtain ⟨_,_,ev,le4,_⟩:=hle4
       simp only [Value.slice.injEq,true_and] at ev
       obtain ⟨rfl,rfl⟩:=ev
       have hyb:ys.length ≤ 1000000:=by rw [Hyl.out];omega
       have T1L:=Lib.hid t1l
       have T2L:=Lib.hid t2l
       have ELN:1 + (ys.length - j) = 1 + d2.length:=by omega
       clear hls hcell HO3 HP3 hbel3 hsz4 t1l t2l
       refine xD rfl _ _ 36 rfl 24 (.slice none 0 0) 1 24 tI64S (.slice (some ⟨(w2.drewN (nd + nn)).heap.size,0,none⟩) 1 1) 1 [(.slice ou x.length cu)] (some (w2.drewN (nd + nn)).heap.size) rfl (by simpa using Row.lit (w2.drewN (nd + nn)) #[(.slice ou x.length cu)] 24 1 1 (by decide) (by simp)) _ _ _ d2 rfl (by have:=T2L.out;omega) (by intro h;cases h) (by intro a ha i u hi;cases ha;rw [Addr.add_lit];exact (hcl ((w2.drewN (nd + nn)).alloc _) ((Below.refl _ _).alloc (Nat.le_refl _) _)).2 i u hi) t2 (by have:=T2L.out;omega) (by unfold maxLen;omega) ?_
       intro vA wA ogA happA
       rw [ELN] at happA
       obtain ⟨oA,capA,rfl,pA1,pA2⟩:=happA.1.val
       unfold maxLen at pA2
       have lowA:=happA.low (B:=(w2.drewN (nd + nn)).heap.size) (by simp) (fun g hg => by cases hg;exact Nat.le_refl _)
       have belA:Below (w2.drewN (nd + nn)).heap.size (w2.drewN (nd + nn)) wA:=((Below.refl _ _).alloc (Nat.le_refl _) _).trans lowA.2
       have sA:=belA.size
       have HA:=Lib.hid happA.1
       have HogA:=Lib.hid lowA.1
       have CA:=(hcl wA belA).1
       clear happA lowA ELN
       go_wp2_with (at_builtin;refine yP (o:=⟨some 51,_,_,_,_,_⟩) ?_)
       refine jA.go ?_
       refine xD rfl _ _ 36 rfl 24 (.slice none 0 0) 1 24 tI64S (.slice (some ⟨wA.heap.size,0,none⟩) 0 0) 0 [] (some wA.heap.size) rfl (by simpa using Row.lit wA #[] 24 1 0 (by decide) (by simp)) (some ⟨g0,0,none⟩) j _ d1 rfl (by have:=T1L.out;omega) (fun h => by cases h) (by intro a ha i u hi;cases ha;rw [Addr.add_lit,Nat.zero_add];have:=(hcl (wA.alloc (.cells #[] 24)) (belA.alloc sA _)).1 i u hi;exact this) t1 (by have:=T1L.out;omega) (by unfold maxLen;omega) ?_
       intro vB wB ogB happB
       rw [Nat.zero_add,List.nil_append] at happB
       obtain ⟨oB,capB,rfl,pB1,pB2⟩:=happB.1.val
       unfold maxLen at pB2
       have lowB:=happB.low (B:=(w2.drewN (nd + nn)).heap.size) (Nat.le_trans sA (by simp)) (fun g hg => by cases hg;exact sA)
       have lowB2:=happB.low (B:=wA.heap.size) (by simp) (fun g hg => by cases hg;exact Nat.le_refl _)
       have belB2:Below wA.heap.size wA wB:=((Below.refl _ _).alloc (Nat.le_refl _) _).trans lowB2.2
       have belB:Below (w2.drewN (nd + nn)).heap.size (w2.drewN (nd + nn)) wB:=belA.trans (belB2.mono sA)
       have sB:=belB.size
       have hrA:Row wB (.slice oA (1 + d2.length) capA) 1 (1 + d2.length) ([(.slice ou x.length cu)] ++ d2) ogA:=HA.out.frame (fun g hg => belB2.block g (HA.out.lt g hg))
       obtain ⟨gA,hgA⟩:=hrA.some_of (j:=0) (by omega)
       subst hgA
       obtain ⟨oA',cA',eA,_,_,_,eA2⟩:=hrA.value
       simp only [Value.slice.injEq,true_and] at eA
       obtain ⟨rfl,rfl⟩:=eA
       simp only [Option.map_some] at eA2
       subst eA2
       have HRA:=Lib.hid hrA
       have HB:=Lib.hid happB.1
       have HogB:=Lib.hid lowB.1
       clear hrA happB lowB lowB2 CA
       go_wp2_with (at_builtin;refine yP (o:=⟨some 53,_,_,_,_,_⟩) ?_)
       refine jA.go ?_
       refine xD rfl _ _ 36 rfl 24 (.slice none 0 0) 1 24 tI64S (.slice oB j capB) j d1 ogB rfl HB.out (some ⟨gA,0,none⟩) _ _ ([(.slice ou x.length cu)] ++ d2) rfl (by simp <;> omega) (fun h => by cases h) (by intro a ha i u hi;cases ha;rw [Addr.add_lit,Nat.zero_add];exact HRA.out.cells i u hi) (fun u hu => (List.mem_append.1 hu).elim (fun h => by simp at h;subst h;exact t3) (t2 u)) (by have:=T2L.out;omega) (by have:=T2L.out;unfold maxLen;omega) ?_
       intro vC wC ogC happC
       have lowC:=happC.low (B:=(w2.drewN (nd + nn)).heap.size) sB HogB.out
       have belC:Below (w2.drewN (nd + nn)).heap.size (w2.drewN (nd + nn)) wC:=belB.trans lowC.2
       have hrC:=happC.1
       have eN:j + (1 + d2.length) = ys.length + 1:=by have:=T1L.out;have:=T2L.out;omega
       rw [eN,List.singleton_append] at hrC
       have hfin:=hmk wC vC ogC belC hrC lowC.1
       obtain ⟨gC,hgC⟩:=hrC.some_of (j:=0) (by omega)
       subst hgC
       obtain ⟨capC,hvC,_,_⟩:=hrC.slice
       subst hvC
       have HFIN:=Lib.hid hfin
       clear hfin hrC happC lowC HA HB HRA HogA HogB eN
       have hfl:(sortC cmpD (((brs t).take (k + 1)).map canon)).length = ys.length + 1:=by rw [wN];simp;rw [Hyl.out];omega
       obtain ⟨zs,hzs⟩:∃ zs,zs = sortC cmpD (((brs t).take (k + 1)).map canon):=⟨_,rfl⟩
       rw [← hzs] at HFIN hfl
       have hkz:zs.length = k + 1:=by rw [hfl,Hyl.out]
       rw [← hfl] at HFIN
       rw [← hfl]
       have HZ:=Lib.hid hzs
       have HKZ:=Lib.hid hkz
       clear hzs hfl hkz
       go_wp2_with fail
       go_roundw
       case rel => exact ⟨k + 1,zs,by omega,by go_num,HZ,HKZ,⟨_,_,rfl⟩,HFIN,hbel4.trans (belC.mono (by omega))⟩
       case measure => simp [intOf];omega
      ·have hd:decide (cmpL ys[j] x < 0) = false:=decide_eq_false hle
       rw [hd] at hls
       have HN:Hid (¬ cmpD x ys[j] < 0):=Lib.hid hle
       clear hd hle
       go_wp2_with (go_at_call 190;refine hls.mono ?_;rintro e w' ⟨rfl,nn,rfl⟩)
       go_roundw
       case rel =>
        refine ⟨j + 1,by omega,by go_num,Lib.hid (fun q h hq => ?_),(by first|exact xW _ _|exact xY _ _ _)⟩
        by_cases hqj:q = j
        ·subst hqj;have:=HN.out;omega
        ·have:=hall.out q h (by omega);omega
       case measure => simp [intOf];omega
     ·obtain rfl:j = ys.length:=by omega
      have HE:Hid (ins cmpD x ys = ys.take ys.length ++ x :: ys.drop ys.length):=Lib.hid (ins_at hj hall.out (fun h => by omega))
      go_wp2_with (at_builtin;refine yP (o:=⟨some 46,_,_,_,_,_⟩) ?_)
      all_goals
       refine jA.go ?_
       have HO4:Own (RS (RS RI)) w1.heap.size wo.heap.size (w2.drewN nd) [.slice (some ⟨g0,0,none⟩) ys.length cap0] ys:=HO2.out.of_heap rfl
       have HP4:Own (RS RI) wo.heap.size w2.heap.size (w2.drewN nd) [.slice ou x.length cu] x:=HP.out.of_heap rfl
       have hbel4:Below w1.heap.size w1 (w2.drewN nd):=hbel2.trans (Below.drewN _ _ _)
       have hsz5:wo.heap.size ≤ (w2.drewN nd).heap.size:=hsz3
       have hle4:=HO4.val
       obtain ⟨d1,d2,t1l,t2l,t1,t2,t3,hcl,hmk⟩:=HO4.insRow (R:=RS RI) rfl hsz5 hsz2 HP4 ys.length hj
       rw [← HE.out,← HST.out] at hmk
       obtain ⟨_,_,ev,le4,_⟩:=hle4
       simp only [Value.slice.injEq,true_and] at ev
       obtain ⟨rfl,rfl⟩:=ev
       have hyb:ys.length ≤ 1000000:=by rw [Hyl.out];omega
       have T1L:=Lib.hid t1l
       have T2L:=Lib.hid t2l
       have hd2:d2 = []:=List.eq_nil_of_length_eq_zero (by omega)
       subst hd2
       clear HO3 HP3 hbel3 hsz4 t1l t2l
       refine xD rfl _ _ 36 rfl 24 (.slice none 0 0) 1 24 tI64S (.slice (some ⟨(w2.drewN nd).heap.size,0,none⟩) 1 1) 1 [(.slice ou x.length cu)] (some (w2.drewN nd).heap.size) rfl (by simpa using Row.lit (w2.drewN nd) #[(.slice ou x.length cu)] 24 1 1 (by decide) (by simp)) _ _ _ ([]:List Value) rfl (by simp) (fun _ => rfl) (by intro a ha i u hi;simp at hi) t2 (by have:=T2L.out;omega) (by unfold maxLen;omega) ?_
       intro vA wA ogA happA
       rw [show 1 + (0:Nat) = 1 + ([]:List Value).length by rfl] at happA
       obtain ⟨oA,capA,rfl,pA1,pA2⟩:=happA.1.val
       unfold maxLen at pA2
       have lowA:=happA.low (B:=(w2.drewN nd).heap.size) (by simp) (fun g hg => by cases hg;exact Nat.le_refl _)
       have belA:Below (w2.drewN nd).heap.size (w2.drewN nd) wA:=((Below.refl _ _).alloc (Nat.le_refl _) _).trans lowA.2
       have sA:=belA.size
       have HA:=Lib.hid happA.1
       have HogA:=Lib.hid lowA.1
       have CA:=(hcl wA belA).1
       clear happA lowA
       go_wp2_with (at_builtin;refine yP (o:=⟨some 51,_,_,_,_,_⟩) ?_)
       refine jA.go ?_
       refine xD rfl _ _ 36 rfl 24 (.slice none 0 0) 1 24 tI64S (.slice (some ⟨wA.heap.size,0,none⟩) 0 0) 0 [] (some wA.heap.size) rfl (by simpa using Row.lit wA #[] 24 1 0 (by decide) (by simp)) (some ⟨g0,0,none⟩) ys.length _ d1 rfl (by have:=T1L.out;omega) (fun h => by cases h) (by intro a ha i u hi;cases ha;rw [Addr.add_lit,Nat.zero_add];have:=(hcl (wA.alloc (.cells #[] 24)) (belA.alloc sA _)).1 i u hi;exact this) t1 (by have:=T1L.out;omega) (by unfold maxLen;omega) ?_
       intro vB wB ogB happB
       rw [Nat.zero_add,List.nil_append] at happB
       obtain ⟨oB,capB,rfl,pB1,pB2⟩:=happB.1.val
       unfold maxLen at pB2
       have lowB:=happB.low (B:=(w2.drewN nd).heap.size) (Nat.le_trans sA (by simp)) (fun g hg => by cases hg;exact sA)
       have lowB2:=happB.low (B:=wA.heap.size) (by simp) (fun g hg => by cases hg;exact Nat.le_refl _)
       have belB2:Below wA.heap.size wA wB:=((Below.refl _ _).alloc (Nat.le_refl _) _).trans lowB2.2
       have belB:Below (w2.drewN nd).heap.size (w2.drewN nd) wB:=belA.trans (belB2.mono sA)
       have sB:=belB.size
       have hrA:Row wB (.slice oA (1 + ([]:List Value).length) capA) 1 (1 + ([]:List Value).length) ([(.slice ou x.length cu)] ++ ([]:List Value)) ogA:=HA.out.frame (fun g hg => belB2.block g (HA.out.lt g hg))
       obtain ⟨gA,hgA⟩:=hrA.some_of (j:=0) (by omega)
       subst hgA
       obtain ⟨oA',cA',eA,_,_,_,eA2⟩:=hrA.value
       simp only [Value.slice.injEq,true_and] at eA
       obtain ⟨rfl,rfl⟩:=eA
       simp only [Option.map_some] at eA2
       subst eA2
       have HRA:=Lib.hid hrA
       have HB:=Lib.hid happB.1
       have HogB:=Lib.hid lowB.1
       clear hrA happB lowB lowB2 CA
       go_wp2_with (at_builtin;refine yP (o:=⟨some 53,_,_,_,_,_⟩) ?_)
       refine jA.go ?_
       refine xD rfl _ _ 36 rfl 24 (.slice none 0 0) 1 24 tI64S (.slice oB ys.length capB) ys.length d1 ogB rfl HB.out (some ⟨gA,0,none⟩) _ _ ([(.slice ou x.length cu)] ++ ([]:List Value)) rfl (by simp <;> omega) (fun h => by cases h) (by intro a ha i u hi;cases ha;rw [Addr.add_lit,Nat.zero_add];exact HRA.out.cells i u hi) (fun u hu => (List.mem_append.1 hu).elim (fun h => by simp at h;subst h;exact t3) (t2 u)) (by have:=T2L.out;omega) (by have:=T2L.out;unfold maxLen;omega) ?_
       intro vC wC ogC happC
       have lowC:=happC.low (B:=(w2.drewN nd).heap.size) sB HogB.out
       have belC:Below (w2.drewN nd).heap.size (w2.drewN nd) wC:=belB.trans lowC.2
       have hrC:=happC.1
       have eN:ys.length + (1) = ys.length + 1:=by have:=T1L.out;have:=T2L.out;omega
       rw [eN,List.singleton_append] at hrC
       have hfin:=hmk wC vC ogC belC hrC lowC.1
       obtain ⟨gC,hgC⟩:=hrC.some_of (j:=0) (by omega)
       subst hgC
       obtain ⟨capC,hvC,_,_⟩:=hrC.slice
       subst hvC
       have HFIN:=Lib.hid hfin
       clear hfin hrC happC lowC HA HB HRA HogA HogB eN
       have hfl:(sortC cmpD (((brs t).take (k + 1)).map canon)).length = ys.length + 1:=by rw [wN];simp;rw [Hyl.out];omega
       obtain ⟨zs,hzs⟩:∃ zs,zs = sortC cmpD (((brs t).take (k + 1)).map canon):=⟨_,rfl⟩
       rw [← hzs] at HFIN hfl
       have hkz:zs.length = k + 1:=by rw [hfl,Hyl.out]
       rw [← hfl] at HFIN
       rw [← hfl]
       have HZ:=Lib.hid hzs
       have HKZ:=Lib.hid hkz
       clear hzs hfl hkz
       go_wp2_with fail
       go_roundw
       case rel => exact ⟨k + 1,zs,by omega,by go_num,HZ,HKZ,⟨_,_,rfl⟩,HFIN,hbel4.trans (belC.mono (by omega))⟩
       case measure => simp [intOf];omega
   ·have hfin:(brs t).take k = brs t:=List.take_of_length_le (by omega)
    have hyc:qB ys = canon t:=by rw [kY HL.out,hys.out,hfin]
    have hylev:∀ b ∈ ys,qZ b:=by
     intro b hb
     rw [hys.out,yW,List.mem_map] at hb
     obtain ⟨c,hc,rfl⟩:=hb
     exact xG (jC HL.out c (List.mem_of_mem_take hc))
    have hsum:qQ ys ≤ 1000000:=by
     have:=xS ys
     rw [hyc,wX HL.out] at this
     omega
    have hyb:ys.length ≤ 1000000:=by rw [Hyl.out];omega
    have HYC:=Lib.hid hyc
    have HS:Hid (Small ys):=Lib.hid (Small.of_lev hylev (by omega))
    obtain ⟨oa9,cap9,L⟩:=hown.out.rd.lists
    have hval:=L.val
    simp only [Value.slice.injEq,true_and] at hval
    obtain ⟨rfl,rfl⟩:=hval
    have HLs:=Lib.hid L
    have hkb:¬ ((k:Int) < ((brs t).length:Int)):=by omega
    clear hfin hyc hylev L hown hlt
    go_wp2_with fail
    go_loopw [9,10] (fun o i wr => ∃ (q:Nat) (r:List Int),q ≤ ys.length∧i = .int .i64 q∧Hid (r = qB (ys.take q))∧(∃ oa cap,o = .slice oa r.length cap)∧Hid (Own (RS RI) wo.heap.size wr.heap.size wr [o] r)∧Below wo.heap.size wo wr) (fun _ i _ => ys.length - (intOf i).toNat)
    case atStart => exact ⟨0,[0],Nat.zero_le _,rfl,Lib.hid rfl,⟨_,_,rfl⟩,Lib.hid ((Own.lit1 (w:=wo) 2 wo.heap.size 0 (by unfold qH;omega) (Nat.le_refl _)).top _ (by simp)),(Below.refl _ _).alloc (Nat.le_refl _) _⟩
    case round =>
     obtain ⟨q,r,hq,rfl,hr,⟨o1,cap1,rfl⟩,hown,hbelq⟩:=hrel
     have hszq:=hbelq.size
     by_cases hlt:q < ys.length
     ·obtain ⟨b,off,e9,hb,hc⟩:=HLs.out.get hlt
      simp only [Option.some.injEq,Addr.mk.injEq,and_true] at e9
      obtain ⟨rfl,rfl⟩:=e9
      obtain ⟨oi,ci,g1,hrd,q1,q2⟩:=hc q hlt
      have g1':wo.cell? ⟨g0,q,none⟩ = some (.slice oi ys[q].length ci):=by rw [← g1,Nat.zero_add]
      obtain ⟨x,hx⟩:∃ x,x = ys[q]:=⟨_,rfl⟩
      have hsm:∀ y ∈ x,0 ≤ y∧y ≤ 1000000000:=by rw [hx];exact HS.out _ (List.getElem_mem hlt)
      have hlen:=vW0 ys q hlt
      have hrl:=xS (ys.take q)
      have hnx:=kA0 ys q hlt
      rw [← hx] at g1' hrd q1 hlen hnx
      obtain ⟨oa2,c2,I⟩:=hrd.ints
      rw [← hr.out] at hrl hnx
      have hval:=I.val
      simp only [Value.slice.injEq,true_and] at hval
      obtain ⟨rfl,rfl⟩:=hval
      have HI:=Lib.hid I
      have HN:=Lib.hid hnx
      have hrb:r.length + x.length ≤ 1000000001:=by omega
      clear hc g1 hx hrd I hnx hrl hlen
      go_wp2_with fail
      go_loopw [9,11] (fun o i wr => ∃ (m:Nat) (z:List Int),m ≤ x.length∧i = .int .i64 m∧Hid (z = r ++ (x.take m).map (· + 1))∧(∃ oa cap,o = .slice oa z.length cap)∧Hid (Own (RS RI) wo.heap.size wr.heap.size wr [o] z)∧Below wo.heap.size wo wr) (fun _ i _ => x.length - (intOf i).toNat)
      case atStart => exact ⟨0,r,Nat.zero_le _,rfl,Lib.hid (by simp),⟨o1,cap1,rfl⟩,hown,hbelq⟩
      case round =>
       obtain ⟨m,z,hm,rfl,hz,⟨o2,cap2,rfl⟩,hown2,hbel2⟩:=hrel
       have hsz2':=hbel2.size
       have g2:wr.cell? ⟨g0,q,none⟩ = some (.slice oi x.length ci):=(hbel2.cell (p:=⟨g0,q,none⟩) hb).trans g1'
       by_cases hlt2:m < x.length
       ·obtain ⟨b2,off2,rfl,hb2,hc2⟩:=HI.out.get hlt2
        have g3:wr.cell? ⟨b2,off2 + m,none⟩ = some (.int .i64 x[m]):=(hbel2.cell (p:=⟨b2,off2 + m,none⟩) hb2).trans (hc2 m hlt2)
        have hy:=hsm x[m] (List.getElem_mem hlt2)
        obtain ⟨y1,y2⟩:=hy
        have hms:=kI0 x m hlt2
        obtain ⟨y,hy⟩:∃ y,y = x[m]:=⟨_,rfl⟩
        rw [← hy] at g3 y1 y2 hms
        have hll:z.length ≤ 1000000002:=by rw [hz.out];simp;omega
        have hw1:IntKind.i64.wrap (y + 1) = y + 1:=IntWalk.i64_in _ (by omega)
        have HM:=Lib.hid hms
        clear hc2 hy hms hsm
        go_wp2_with (at_builtin;refine yP (o:=⟨some 80,_,_,_,_,_⟩) ?_)
        refine jA.go ?_
        refine jT0 (w:=wr) (R:=RI) rfl _ _ 24 rfl 2 (.int .i64 0) 1 8 tI64 rfl (.slice o2 z.length cap2) z (y + 1) [.int .i64 (y + 1)] wo.heap.size wr.heap.size wr.heap.size rfl hown2.out (Own.int ⟨by omega,by omega⟩) (Nat.le_refl _) hsz2' 2 rfl rfl (by omega) (by omega) ?_
        intro oa1 cap1 w1' hown1 c1a c1b hbel1
        have hb3:=hbel2.trans hbel1
        obtain ⟨z',hz'⟩:∃ z',z' = z ++ [y + 1]:=⟨_,rfl⟩
        have HZ:Hid (z' = r ++ (x.take (m + 1)).map (· + 1)):=Lib.hid (by rw [hz',hz.out,HM.out,List.append_assoc])
        have e1:z.length + 1 = z'.length:=by rw [hz'];simp
        rw [← hz',e1] at hown1
        have HO1':Hid (Own (RS RI) wo.heap.size w1'.heap.size w1' [.slice oa1 z'.length cap1] z'):=hown1
        rw [e1]
        clear hown1 hbel1 hown2 hown e1 hz'
        go_wp2_with fail
        go_roundw
        case rel => exact ⟨m + 1,z',by omega,by go_num,HZ,⟨_,_,rfl⟩,HO1',hb3⟩
        case measure => simp [intOf];omega
       ·have HZ:Hid (z = qB (ys.take (q + 1))):=Lib.hid (by rw [HN.out,hz.out,List.take_of_length_le (by omega)])
        go_wp2_with fail
        go_roundw
        case rel => exact ⟨q + 1,z,by omega,by go_num,HZ,⟨_,_,rfl⟩,hown2,hbel2⟩
        case measure => simp [intOf];omega
     ·have hfin:ys.take q = ys:=List.take_of_length_le (by omega)
      have HF:Hid (r = canon t):=Lib.hid (by rw [hr.out,hfin,HYC.out])
      clear hfin
      go_wp2_with fail
      go_ret
      exact ⟨_,rfl,by rw [← HF.out];exact hown.out.mono (Nat.le_trans hsz1 hsz2) (Nat.le_refl _),b1.trans ((hbel.trans (hbelq.mono hsz2)).mono hsz1)⟩
end
section
section
variable {P:Program} {w:World}
theorem step_call {ops:Array Oper} {o:Oper} {a:Act} {K:Act→World→Prop} {Q:Exit→Act→World→Prop} {E:Prop} (hgd:o.guard = none) (f:FuncId) (args:Array Operand) (ts:Array TypeId)
  (ho:o.op = .call { callee:=.value (.func f),args:=args,argTypes:=ts }) (eg:∀ args w,(callFunc f args).run P w = .ok (.enter f args) w) (vs:Array Value) (hv:args.map a.eval = vs)
  (h:Calls P f vs w fun e w' => ∃ v,e = .returned v∧K (a.put o.dst v) w'):if Region.wanted o (yielded ops a.tmps) = true then Oper.wp P o a w K Q else E:=by
 have hw:Region.wanted o (yielded ops a.tmps) = true:=by simp [Region.wanted,hgd]
 rw [if_pos hw]
 subst hv
 unfold Oper.wp
 have hrun:(execOp a.eval o).run P w = .ok (.enter f (args.map a.eval)) w:=by
  simp [execOp,ho,resolve,invoke,Act.eval,Deferred.ofValue,eg]
 rw [hrun,Oper.upon_enter]
 refine h.mono ?_
 rintro e w' ⟨v,rfl,hk⟩
 exact hk
theorem step_appendS {ops:Array Oper} {o:Oper} {a:Act} {K:Act→World→Prop} {Q:Exit→Act→World→Prop} {E:Prop} (hgd:o.guard = none) (s x:Operand) (t:TypeId)
  (ho:o.op = .call { callee:=.builtin .append,args:=#[s,x],argTypes:=#[t,t] })
  (e:TypeId) (z:Value) (k bytes:Nat) (T:ST P t e z k bytes)
  (v:Value) (n:Nat) (ds:List Value) (og:Option Nat) (hs:a.eval s = v) (hown:Row w v k n ds og)
  (ao:Option Addr) (m c:Nat) (news:List Value) (hx:a.eval x = .slice ao m c) (hl:news.length = m * k) (hnone:ao = none→m = 0) (hnews:∀ a,ao = some a→∀ j u,news[j]? = some u→w.cell? (a.add j) = some u) (h1:∀ u ∈ news,u.oneCell' = true)
  (hbytes:(n + m) * bytes ≤ 140737488355328) (h63:n + m ≤ maxLen)
  (h:∀ v' w' og',yB w w' v' k (n + m) (ds ++ news) og og'→K (a.put o.dst v') w'):if Region.wanted o (yielded ops a.tmps) = true then Oper.wp P o a w K Q else E:=by
 have hw:Region.wanted o (yielded ops a.tmps) = true:=by simp [Region.wanted,hgd]
 rw [if_pos hw]
 obtain ⟨v',w',og',hr,h2⟩:=yH0 (P:=P) (w:=w) t o.type e z k bytes T v n ds og hown ao m c news hl hnone hnews h1 hbytes h63
 unfold Oper.wp execOp
 simp only [ho,resolve,invoke,builtin,Sem.run_bind,Sem.run_pure,Result.andThen_ok,List.map_toArray,List.map_cons,List.map_nil,hs,hx,hr]
 exact h v' w' og' h2
end
end
end Go.Proofs.YtedgfkpfhonlpaaGreat

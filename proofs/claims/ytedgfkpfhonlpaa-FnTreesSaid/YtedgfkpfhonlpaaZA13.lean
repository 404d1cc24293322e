/- Lemmas (13). -/
import Derived.Test.YtedgfkpfhonlpaaZA1
import Derived.Test.YtedgfkpfhonlpaaZA10
import Derived.Test.YtedgfkpfhonlpaaZA12
set_option linter.unusedSimpArgs false
set_option linter.unusedVariables false
namespace Go.Proofs.Ytedgfkpfhonlpaa
open Go.RowKit
def trOK (s:List Int):Bool :=
 let u:=canon s
 let bs:=forest (brs u)
 forB bs && lev8 (rootOn bs) && decide (canon (rootOn bs) = u) && decide (sumLen bs + 1 = s.length) && decide (rdF (txtF 8 u) = ([u],true)) && decide ((txtF 8 u).length ≤ 16) &&
 decide (0 < (labOf s).1) && decide ((labOf s).1 ≤ 40320) && decide (0 < symF 9 s) && decide (symF 9 s ≤ 40320) && decide (0 < densF 9 s) && decide (densF 9 s ≤ 40320) &&
 decide ((labOf s).1 * symF 9 s * densF 9 s = facZ s.length) && decide (0 < (labOf s).1 * symF 9 s) && decide ((labOf s).1 * symF 9 s ≤ 40320)
set_option maxRecDepth 100000 in
theorem tr_check0:((lists8.drop 0).take 80).all trOK = true:=by decide +kernel
set_option maxRecDepth 100000 in
theorem tr_check1:((lists8.drop 80).take 80).all trOK = true:=by decide +kernel
set_option maxRecDepth 100000 in
theorem tr_check2:((lists8.drop 160).take 80).all trOK = true:=by decide +kernel
set_option maxRecDepth 100000 in
theorem tr_check3:((lists8.drop 240).take 80).all trOK = true:=by decide +kernel
set_option maxRecDepth 100000 in
theorem tr_check4:((lists8.drop 320).take 80).all trOK = true:=by decide +kernel
set_option maxRecDepth 100000 in
theorem tr_check5:((lists8.drop 400).take 80).all trOK = true:=by decide +kernel
set_option maxRecDepth 100000 in
theorem tr_check6:((lists8.drop 480).take 80).all trOK = true:=by decide +kernel
set_option maxRecDepth 100000 in
theorem tr_check7:((lists8.drop 560).take 80).all trOK = true:=by decide +kernel
theorem tr_check:lists8.all trOK = true:=by
 have e:lists8 = lists8.take 80 ++ ((lists8.drop 80).take 80 ++ ((lists8.drop 160).take 80 ++ ((lists8.drop 240).take 80 ++ ((lists8.drop 320).take 80 ++ ((lists8.drop 400).take 80 ++ ((lists8.drop 480).take 80 ++ lists8.drop 560)))))):=by
  have h:∀ n,(lists8.drop n).take 80 ++ lists8.drop (n + 80) = lists8.drop n:=fun n => by
   rw [← List.drop_drop];exact List.take_append_drop 80 _
  rw [h 480,h 400,h 320,h 240,h 160,h 80,List.take_append_drop]
 have e7:(lists8.drop 560).take 80 = lists8.drop 560:=List.take_of_length_le (by decide +kernel)
 have h0:=tr_check0
 have h7:=tr_check7
 rw [List.drop_zero] at h0
 rw [e7] at h7
 rw [e]
 simp only [List.all_append,h0,tr_check1,tr_check2,tr_check3,tr_check4,tr_check5,tr_check6,h7,Bool.and_self]
structure TrF (s:List Int):Prop where
 fb:forB (forest (brs (canon s))) = true
 lv:lev8 (rootOn (forest (brs (canon s)))) = true
 ro:canon (rootOn (forest (brs (canon s)))) = canon s
 sl:sumLen (forest (brs (canon s))) + 1 = s.length
 rd:rdF (txtF 8 (canon s)) = ([canon s],true)
 tl:(txtF 8 (canon s)).length ≤ 16
 l0:0 < (labOf s).1
 l1:(labOf s).1 ≤ 40320
 s0:0 < symF 9 s
 s1:symF 9 s ≤ 40320
 d0:0 < densF 9 s
 d1:densF 9 s ≤ 40320
 eq:(labOf s).1 * symF 9 s * densF 9 s = facZ s.length
 p0:0 < (labOf s).1 * symF 9 s
 p1:(labOf s).1 * symF 9 s ≤ 40320
theorem tr_all {s:List Int} (h:lev8 s = true):TrF s:=by
 have h:=lev8_all tr_check h
 unfold trOK at h
 simp only [Bool.and_eq_true,decide_eq_true_eq] at h
 obtain ⟨⟨⟨⟨⟨⟨⟨⟨⟨⟨⟨⟨⟨⟨k1,k2⟩,k3⟩,k4⟩,k5⟩,k6⟩,k7⟩,k8⟩,k9⟩,ka⟩,kb⟩,kc⟩,kd⟩,ke⟩,kf⟩:=h
 exact ⟨k1,k2,k3,k4,k5,k6,k7,k8,k9,ka,kb,kc,kd,ke,kf⟩
end Go.Proofs.Ytedgfkpfhonlpaa

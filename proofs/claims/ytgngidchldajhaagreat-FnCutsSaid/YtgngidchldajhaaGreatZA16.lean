/- Lemmas (16). -/
import Derived.Test.YtgngidchldajhaaGreatZA15
set_option linter.unusedSimpArgs false
set_option linter.unusedVariables false
namespace Go.Proofs.YtgngidchldajhaaGreat
open Go.RowKit
def piece6 (i:Nat):List (List Int):=((levels 6).drop (11 * i)).take 11
theorem levels6_len:(levels 6).length = 132:=by decide +kernel
set_option maxRecDepth 100000
theorem fc_6_0:(piece6 0).all fcOK = true:=by decide +kernel
theorem fc_6_1:(piece6 1).all fcOK = true:=by decide +kernel
theorem fc_6_2:(piece6 2).all fcOK = true:=by decide +kernel
theorem fc_6_3:(piece6 3).all fcOK = true:=by decide +kernel
theorem fc_6_4:(piece6 4).all fcOK = true:=by decide +kernel
theorem fc_6_5:(piece6 5).all fcOK = true:=by decide +kernel
theorem fc_6_6:(piece6 6).all fcOK = true:=by decide +kernel
theorem fc_6_7:(piece6 7).all fcOK = true:=by decide +kernel
theorem fc_6_8:(piece6 8).all fcOK = true:=by decide +kernel
theorem fc_6_9:(piece6 9).all fcOK = true:=by decide +kernel
theorem fc_6_10:(piece6 10).all fcOK = true:=by decide +kernel
theorem fc_6_11:(piece6 11).all fcOK = true:=by decide +kernel
theorem fc_check6:(levels 6).all fcOK = true:=List.all_eq_true.2 fun x hx => by
 obtain ⟨i,hi,rfl⟩:=List.mem_iff_getElem.1 hx
 have hl:=levels6_len
 have hm:=Nat.div_add_mod i 11
 have hr:=Nat.mod_lt i (show 0 < 11 by decide)
 have hk:i / 11 < 12:=by omega
 have hmem:(levels 6)[i] ∈ piece6 (i / 11):=by
  refine List.mem_of_getElem? (i:=i % 11) ?_
  unfold piece6
  rw [List.getElem?_take_of_lt hr,List.getElem?_drop,hm]
  exact List.getElem?_eq_getElem hi
 have key:∀ k,k < 12→(piece6 k).all fcOK = true:=fun k hk => by
  match k,hk with
  | 0,_ => exact fc_6_0
  | 1,_ => exact fc_6_1
  | 2,_ => exact fc_6_2
  | 3,_ => exact fc_6_3
  | 4,_ => exact fc_6_4
  | 5,_ => exact fc_6_5
  | 6,_ => exact fc_6_6
  | 7,_ => exact fc_6_7
  | 8,_ => exact fc_6_8
  | 9,_ => exact fc_6_9
  | 10,_ => exact fc_6_10
  | 11,_ => exact fc_6_11
 exact List.all_eq_true.1 (key _ hk) _ hmem
end Go.Proofs.YtgngidchldajhaaGreat

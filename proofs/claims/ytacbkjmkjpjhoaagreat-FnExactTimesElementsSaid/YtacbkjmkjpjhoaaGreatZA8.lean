/- Lemmas (8). -/
import Derived.ChangeSame
import Derived.Test.YtacbkjmkjpjhoaaGreatZA0
import Derived.Test.YtacbkjmkjpjhoaaGreatZA1
import Derived.Test.YtacbkjmkjpjhoaaGreatZA3
import Derived.Test.YtacbkjmkjpjhoaaGreatZA6
import Derived.Test.YtacbkjmkjpjhoaaGreatZA7
set_option linter.unusedSimpArgs false
set_option linter.unusedVariables false
namespace Go.Proofs.YtacbkjmkjpjhoaaGreat
open Go.RowKit
theorem telT_none (s : St) (u : List Nat) : telT s u Option.none = Option.none := rfl
theorem Zg : type_of% (And.intro (And.intro (And.intro (And.intro (And.intro (And.intro (And.intro @arun.eq_1 (And.intro @arun.eq_2 @astep.eq_def)) (And.intro (And.intro @anew.eq_def @amut.eq_def) (And.intro @isMut.eq_def @awanted.eq_def))) (And.intro (And.intro @avG.eq_def (And.intro @Bool.true_beq @Bool.false_beq)) (And.intro (And.intro @beq_true @beq_false) (And.intro @dstOK.eq_def @cfg.eq_def)))) (And.intro (And.intro (And.intro @opv.eq_def (And.intro @noJunk.eq_def @constAV.eq_def)) (And.intro (And.intro @look_eq @lookB.eq_1) (And.intro @lookB.eq_2 @insR_eq))) (And.intro (And.intro @insB.eq_1 (And.intro @insB.eq_2 @cond_true.{1})) (And.intro (And.intro @cond_false.{1} @insAll.eq_def) (And.intro @List.foldr_cons.{0,0} @List.foldr_nil.{0,0}))))) (And.intro (And.intro (And.intro (And.intro @Option.bind_some.{0,0} (And.intro @Option.map_some.{0,0} @Option.bind_none.{0,0})) (And.intro (And.intro @Option.map_none.{0,0} @Option.getD_some.{0}) (And.intro @Option.getD_none.{0} @Bool.false_eq_true))) (And.intro (And.intro @decide_true (And.intro @decide_false @slT.eq_def)) (And.intro (And.intro @tyT.eq_def @tyT2.eq_def) (And.intro @fsT.eq_def @avD.eq_def)))) (And.intro (And.intro (And.intro @avI.eq_def (And.intro @avB.eq_def @dval.eq_def)) (And.intro (And.intro @un_int @un_bool) (And.intro @un_raw @un_sl))) (And.intro (And.intro (And.intro @un_tag @avun_val) (And.intro @avun_nil @avun_own)) (And.intro (And.intro @avun_view @abin.eq_def) (And.intro @aun.eq_def @alen.eq_def)))))) (And.intro (And.intro (And.intro (And.intro (And.intro @aindex.eq_def (And.intro @aslice.eq_def @afield.eq_def)) (And.intro (And.intro @acells.eq_def @aload.eq_def) (And.intro @avCells.eq_def @zAC.eq_def))) (And.intro (And.intro @afill.eq_1 (And.intro @afill.eq_2 @aparts.eq_1)) (And.intro (And.intro @aparts.eq_2 @mkObj.eq_def) (And.intro @rowsD.eq_1 @rowsD.eq_2)))) (And.intro (And.intro (And.intro @cellsD.eq_1 (And.intro @cellsD.eq_2 @cellsD.eq_3)) (And.intro (And.intro @cellD_vsl @cellD_vtag) (And.intro @cellD_vint @cellD_vbool))) (And.intro (And.intro @cellD_vraw (And.intro @cellD_nilsl @cellD_own)) (And.intro (And.intro @cellD_view @cellD_junk) (And.intro @fresh.eq_def @abase.eq_def))))) (And.intro (And.intro (And.intro (And.intro @aelems.eq_def (And.intro @absorbKey.eq_def @absorbs.eq_1)) (And.intro (And.intro @absorbs.eq_2 @absorbs.eq_3) (And.intro @absorb.eq_def @absorbRows.eq_1))) (And.intro (And.intro @absorbRows.eq_2 (And.intro @drop_eq @dropB.eq_1)) (And.intro (And.intro @dropB.eq_2 @killR.eq_def) (And.intro @AC.kill.eq_def @AV.kill.eq_def)))) (And.intro (And.intro (And.intro @AV.refs.eq_def (And.intro @AC.refs.eq_def @Obj.refs.eq_def)) (And.intro (And.intro @List.map_cons.{0,0} @List.map_nil.{0,0}) (And.intro @List.all_cons.{0} @List.all_nil.{0}))) (And.intro (And.intro (And.intro @List.flatMap_cons.{0,0} @List.flatMap_nil.{0,0}) (And.intro @List.contains_nil.{0} @List.contains_cons.{0})) (And.intro (And.intro @List.append_nil.{0} @List.nil_append.{0}) (And.intro @List.cons_append.{0} @Bool.and_true))))))) (And.intro (And.intro (And.intro (And.intro (And.intro (And.intro @Bool.true_and (And.intro @Bool.not_true @Bool.not_false)) (And.intro (And.intro @Bool.and_self @Option.isNone_none.{0}) (And.intro @Option.isNone_some.{0} @List.length_cons.{0}))) (And.intro (And.intro @List.length_nil.{0} (And.intro @List.toList_toArray.{0} @List.getElem?_toArray.{0})) (And.intro (And.intro @splice.eq_def @List.take_succ_cons.{0}) (And.intro @List.drop_succ_cons.{0} @List.take_zero.{0})))) (And.intro (And.intro (And.intro @List.drop_zero.{0} (And.intro @List.take_nil.{0} @List.drop_nil.{0})) (And.intro (And.intro @Nat.zero_add @Nat.add_zero) (And.intro @and_self @true_and))) (And.intro (And.intro @and_true (And.intro @List.getElem?_cons_zero.{0} @List.getElem?_cons_succ.{0})) (And.intro (And.intro @List.getElem?_nil.{0} @beq_self_eq_true.{0}) (And.intro @Bool.or_false @Bool.false_or))))) (And.intro (And.intro (And.intro (And.intro @Bool.or_true (And.intro @Bool.true_or @putR.eq_def)) (And.intro (And.intro @bne_self_eq_false.{0} @Bool.and_false) (And.intro @Bool.false_and @id_eq.{1}))) (And.intro (And.intro @Obj.k.eq_def (And.intro @Obj.len.eq_def @Obj.deep.eq_def)) (And.intro (And.intro @List.getElem?_cons.{0} @List.set_cons_zero.{0}) (And.intro @List.set_cons_succ.{0} @List.length_set.{0})))) (And.intro (And.intro (And.intro @aopsT.eq_1 (And.intro @aopsT.eq_2 @astepT.eq_def)) (And.intro (And.intro @isCall.eq_def @acallT.eq_def) (And.intro @arg1.eq_def @argV_raw))) (And.intro (And.intro (And.intro @argV_nil @argV_own) (And.intro @argV_view @argV_agg)) (And.intro (And.intro @argV_sl @argV_int) (And.intro @argV_bool @argV_tag)))))) (And.intro (And.intro (And.intro (And.intro (And.intro @isOwn.eq_def (And.intro @callE.eq_def @ownKey.eq_def)) (And.intro (And.intro @rowE_row @putE_some) (And.intro @putE_none @Tab.own.eq_def))) (And.intro (And.intro @Tab.at'.eq_def (And.intro @atArgs_eq @Option.isSome_some.{0})) (And.intro (And.intro @Option.isSome_none.{0} @gotT_some) (And.intro @gotF_some @gotF_none)))) (And.intro (And.intro (And.intro @callRefs_call (And.intro @St.frzs.eq_1 @St.frzs.eq_2)) (And.intro (And.intro @St.frz.eq_def @AC.frz.eq_def) (And.intro @AV.frz.eq_def @Obj.frz.eq_def))) (And.intro (And.intro (And.intro @frzR.eq_1 @frzR.eq_2) (And.intro @frzH.eq_1 @frzH.eq_2)) (And.intro (And.intro @telT_some @List.size_toArray.{0}) (And.intro @aargs.eq_1 @aargs.eq_2))))) (And.intro (And.intro (And.intro (And.intro @aargs.eq_3 (And.intro @argAV.eq_def @argCells.eq_1)) (And.intro (And.intro @argCells.eq_2 @argCells.eq_3) (And.intro @argCell.eq_def @fnId.eq_def))) (And.intro (And.intro @opRefs_nil (And.intro @opRefs_cons @St.got.eq_def)) (And.intro (And.intro @resACs.eq_1 @resACs.eq_2) (And.intro @resAC.eq_def @outAV.eq_def)))) (And.intro (And.intro (And.intro @Res.scalar.eq_def (And.intro @isSl.eq_def @Tab.add.eq_def)) (And.intro (And.intro @Tab.none.eq_def @tab1.eq_def) (And.intro @tab2.eq_def @tab3.eq_def))) (And.intro (And.intro (And.intro @codL_d @codLL_d) (And.intro @codI_d @codB_d)) (And.intro (And.intro @codCts_d @List.isEmpty_nil.{0}) (And.intro @List.isEmpty_cons.{0} @List.append_eq.{0})))))))) := (And.intro (And.intro (And.intro (And.intro (And.intro (And.intro (And.intro @arun.eq_1 (And.intro @arun.eq_2 @astep.eq_def)) (And.intro (And.intro @anew.eq_def @amut.eq_def) (And.intro @isMut.eq_def @awanted.eq_def))) (And.intro (And.intro @avG.eq_def (And.intro @Bool.true_beq @Bool.false_beq)) (And.intro (And.intro @beq_true @beq_false) (And.intro @dstOK.eq_def @cfg.eq_def)))) (And.intro (And.intro (And.intro @opv.eq_def (And.intro @noJunk.eq_def @constAV.eq_def)) (And.intro (And.intro @look_eq @lookB.eq_1) (And.intro @lookB.eq_2 @insR_eq))) (And.intro (And.intro @insB.eq_1 (And.intro @insB.eq_2 @cond_true.{1})) (And.intro (And.intro @cond_false.{1} @insAll.eq_def) (And.intro @List.foldr_cons.{0,0} @List.foldr_nil.{0,0}))))) (And.intro (And.intro (And.intro (And.intro @Option.bind_some.{0,0} (And.intro @Option.map_some.{0,0} @Option.bind_none.{0,0})) (And.intro (And.intro @Option.map_none.{0,0} @Option.getD_some.{0}) (And.intro @Option.getD_none.{0} @Bool.false_eq_true))) (And.intro (And.intro @decide_true (And.intro @decide_false @slT.eq_def)) (And.intro (And.intro @tyT.eq_def @tyT2.eq_def) (And.intro @fsT.eq_def @avD.eq_def)))) (And.intro (And.intro (And.intro @avI.eq_def (And.intro @avB.eq_def @dval.eq_def)) (And.intro (And.intro @un_int @un_bool) (And.intro @un_raw @un_sl))) (And.intro (And.intro (And.intro @un_tag @avun_val) (And.intro @avun_nil @avun_own)) (And.intro (And.intro @avun_view @abin.eq_def) (And.intro @aun.eq_def @alen.eq_def)))))) (And.intro (And.intro (And.intro (And.intro (And.intro @aindex.eq_def (And.intro @aslice.eq_def @afield.eq_def)) (And.intro (And.intro @acells.eq_def @aload.eq_def) (And.intro @avCells.eq_def @zAC.eq_def))) (And.intro (And.intro @afill.eq_1 (And.intro @afill.eq_2 @aparts.eq_1)) (And.intro (And.intro @aparts.eq_2 @mkObj.eq_def) (And.intro @rowsD.eq_1 @rowsD.eq_2)))) (And.intro (And.intro (And.intro @cellsD.eq_1 (And.intro @cellsD.eq_2 @cellsD.eq_3)) (And.intro (And.intro @cellD_vsl @cellD_vtag) (And.intro @cellD_vint @cellD_vbool))) (And.intro (And.intro @cellD_vraw (And.intro @cellD_nilsl @cellD_own)) (And.intro (And.intro @cellD_view @cellD_junk) (And.intro @fresh.eq_def @abase.eq_def))))) (And.intro (And.intro (And.intro (And.intro @aelems.eq_def (And.intro @absorbKey.eq_def @absorbs.eq_1)) (And.intro (And.intro @absorbs.eq_2 @absorbs.eq_3) (And.intro @absorb.eq_def @absorbRows.eq_1))) (And.intro (And.intro @absorbRows.eq_2 (And.intro @drop_eq @dropB.eq_1)) (And.intro (And.intro @dropB.eq_2 @killR.eq_def) (And.intro @AC.kill.eq_def @AV.kill.eq_def)))) (And.intro (And.intro (And.intro @AV.refs.eq_def (And.intro @AC.refs.eq_def @Obj.refs.eq_def)) (And.intro (And.intro @List.map_cons.{0,0} @List.map_nil.{0,0}) (And.intro @List.all_cons.{0} @List.all_nil.{0}))) (And.intro (And.intro (And.intro @List.flatMap_cons.{0,0} @List.flatMap_nil.{0,0}) (And.intro @List.contains_nil.{0} @List.contains_cons.{0})) (And.intro (And.intro @List.append_nil.{0} @List.nil_append.{0}) (And.intro @List.cons_append.{0} @Bool.and_true))))))) (And.intro (And.intro (And.intro (And.intro (And.intro (And.intro @Bool.true_and (And.intro @Bool.not_true @Bool.not_false)) (And.intro (And.intro @Bool.and_self @Option.isNone_none.{0}) (And.intro @Option.isNone_some.{0} @List.length_cons.{0}))) (And.intro (And.intro @List.length_nil.{0} (And.intro @List.toList_toArray.{0} @List.getElem?_toArray.{0})) (And.intro (And.intro @splice.eq_def @List.take_succ_cons.{0}) (And.intro @List.drop_succ_cons.{0} @List.take_zero.{0})))) (And.intro (And.intro (And.intro @List.drop_zero.{0} (And.intro @List.take_nil.{0} @List.drop_nil.{0})) (And.intro (And.intro @Nat.zero_add @Nat.add_zero) (And.intro @and_self @true_and))) (And.intro (And.intro @and_true (And.intro @List.getElem?_cons_zero.{0} @List.getElem?_cons_succ.{0})) (And.intro (And.intro @List.getElem?_nil.{0} @beq_self_eq_true.{0}) (And.intro @Bool.or_false @Bool.false_or))))) (And.intro (And.intro (And.intro (And.intro @Bool.or_true (And.intro @Bool.true_or @putR.eq_def)) (And.intro (And.intro @bne_self_eq_false.{0} @Bool.and_false) (And.intro @Bool.false_and @id_eq.{1}))) (And.intro (And.intro @Obj.k.eq_def (And.intro @Obj.len.eq_def @Obj.deep.eq_def)) (And.intro (And.intro @List.getElem?_cons.{0} @List.set_cons_zero.{0}) (And.intro @List.set_cons_succ.{0} @List.length_set.{0})))) (And.intro (And.intro (And.intro @aopsT.eq_1 (And.intro @aopsT.eq_2 @astepT.eq_def)) (And.intro (And.intro @isCall.eq_def @acallT.eq_def) (And.intro @arg1.eq_def @argV_raw))) (And.intro (And.intro (And.intro @argV_nil @argV_own) (And.intro @argV_view @argV_agg)) (And.intro (And.intro @argV_sl @argV_int) (And.intro @argV_bool @argV_tag)))))) (And.intro (And.intro (And.intro (And.intro (And.intro @isOwn.eq_def (And.intro @callE.eq_def @ownKey.eq_def)) (And.intro (And.intro @rowE_row @putE_some) (And.intro @putE_none @Tab.own.eq_def))) (And.intro (And.intro @Tab.at'.eq_def (And.intro @atArgs_eq @Option.isSome_some.{0})) (And.intro (And.intro @Option.isSome_none.{0} @gotT_some) (And.intro @gotF_some @gotF_none)))) (And.intro (And.intro (And.intro @callRefs_call (And.intro @St.frzs.eq_1 @St.frzs.eq_2)) (And.intro (And.intro @St.frz.eq_def @AC.frz.eq_def) (And.intro @AV.frz.eq_def @Obj.frz.eq_def))) (And.intro (And.intro (And.intro @frzR.eq_1 @frzR.eq_2) (And.intro @frzH.eq_1 @frzH.eq_2)) (And.intro (And.intro @telT_some @List.size_toArray.{0}) (And.intro @aargs.eq_1 @aargs.eq_2))))) (And.intro (And.intro (And.intro (And.intro @aargs.eq_3 (And.intro @argAV.eq_def @argCells.eq_1)) (And.intro (And.intro @argCells.eq_2 @argCells.eq_3) (And.intro @argCell.eq_def @fnId.eq_def))) (And.intro (And.intro @opRefs_nil (And.intro @opRefs_cons @St.got.eq_def)) (And.intro (And.intro @resACs.eq_1 @resACs.eq_2) (And.intro @resAC.eq_def @outAV.eq_def)))) (And.intro (And.intro (And.intro @Res.scalar.eq_def (And.intro @isSl.eq_def @Tab.add.eq_def)) (And.intro (And.intro @Tab.none.eq_def @tab1.eq_def) (And.intro @tab2.eq_def @tab3.eq_def))) (And.intro (And.intro (And.intro @codL_d @codLL_d) (And.intro @codI_d @codB_d)) (And.intro (And.intro @codCts_d @List.isEmpty_nil.{0}) (And.intro @List.isEmpty_cons.{0} @List.append_eq.{0}))))))))
theorem Zd : type_of% (And.intro @telT_none (And.intro (And.intro (And.intro (And.intro @dregT_mk (And.intro @drunT.eq_1 @drunT.eq_2)) (And.intro @devalT.eq_def (And.intro @deval.eq_def @St.add.eq_def))) (And.intro (And.intro @opnd_move (And.intro @opnd_assign @opnd_load)) (And.intro (And.intro @opnd_box @opnd_alloc) (And.intro @opnd_unOp @opnd_convert)))) (And.intro (And.intro (And.intro @opnd_field (And.intro @opnd_extract @opnd_index)) (And.intro @opnd_make (And.intro @opnd_bin @opnd_pick))) (And.intro (And.intro @opnd_build (And.intro @opnd_buildSlice @opnd_slice)) (And.intro (And.intro @opnd_call @opnd_bcall) (And.intro @Option.toList_some.{0} @Option.toList_none.{0})))))) := (And.intro @telT_none (And.intro (And.intro (And.intro (And.intro @dregT_mk (And.intro @drunT.eq_1 @drunT.eq_2)) (And.intro @devalT.eq_def (And.intro @deval.eq_def @St.add.eq_def))) (And.intro (And.intro @opnd_move (And.intro @opnd_assign @opnd_load)) (And.intro (And.intro @opnd_box @opnd_alloc) (And.intro @opnd_unOp @opnd_convert)))) (And.intro (And.intro (And.intro @opnd_field (And.intro @opnd_extract @opnd_index)) (And.intro @opnd_make (And.intro @opnd_bin @opnd_pick))) (And.intro (And.intro @opnd_build (And.intro @opnd_buildSlice @opnd_slice)) (And.intro (And.intro @opnd_call @opnd_bcall) (And.intro @Option.toList_some.{0} @Option.toList_none.{0}))))))
theorem Zu : type_of% (And.intro (And.intro @cutR.eq_1 @cutR.eq_2) (And.intro @cond_true.{1} @cond_false.{1})) := (And.intro (And.intro @cutR.eq_1 @cutR.eq_2) (And.intro @cond_true.{1} @cond_false.{1}))
theorem Zz : type_of% (And.intro (And.intro (And.intro @look_eq @lookB.eq_1) (And.intro @lookB.eq_2 (And.intro @cond_true.{1} @cond_false.{1}))) (And.intro (And.intro @List.length_append.{0} (And.intro @List.length_map.{0,0} @List.length_cons.{0})) (And.intro @List.length_nil.{0} (And.intro @Nat.zero_add @List.length_set.{0})))) := (And.intro (And.intro (And.intro @look_eq @lookB.eq_1) (And.intro @lookB.eq_2 (And.intro @cond_true.{1} @cond_false.{1}))) (And.intro (And.intro @List.length_append.{0} (And.intro @List.length_map.{0,0} @List.length_cons.{0})) (And.intro @List.length_nil.{0} (And.intro @Nat.zero_add @List.length_set.{0}))))
theorem Zv : type_of% (And.intro (And.intro @List.map_append.{0,0} (And.intro @List.map_cons.{0,0} @List.map_nil.{0,0})) (And.intro (And.intro @List.append_assoc.{0} @List.cons_append.{0}) (And.intro @List.nil_append.{0} @List.append_nil.{0}))) := (And.intro (And.intro @List.map_append.{0,0} (And.intro @List.map_cons.{0,0} @List.map_nil.{0,0})) (And.intro (And.intro @List.append_assoc.{0} @List.cons_append.{0}) (And.intro @List.nil_append.{0} @List.append_nil.{0})))
theorem Zk : type_of% (And.intro (And.intro (And.intro @Tel.sh.eq_def @List.map_cons.{0,0}) (And.intro @List.map_nil.{0,0} (And.intro @AV.refs.eq_def @AC.refs.eq_def))) (And.intro (And.intro @List.flatMap_cons.{0,0} @List.flatMap_nil.{0,0}) (And.intro @List.append_nil.{0} (And.intro @List.nil_append.{0} @Obj.refs.eq_def)))) := (And.intro (And.intro (And.intro @Tel.sh.eq_def @List.map_cons.{0,0}) (And.intro @List.map_nil.{0,0} (And.intro @AV.refs.eq_def @AC.refs.eq_def))) (And.intro (And.intro @List.flatMap_cons.{0,0} @List.flatMap_nil.{0,0}) (And.intro @List.append_nil.{0} (And.intro @List.nil_append.{0} @Obj.refs.eq_def))))
theorem Ze : type_of% (And.intro (And.intro @aresults.eq_1 @aresults.eq_2) (And.intro @aresults.eq_3 @ares.eq_def)) := (And.intro (And.intro @aresults.eq_1 @aresults.eq_2) (And.intro @aresults.eq_3 @ares.eq_def))
theorem Q1 : type_of% @RunK.seq := @RunK.seq
theorem Q2 : type_of% @RunK.next := @RunK.next
theorem Q3 : type_of% @RunK.skip := @RunK.skip
theorem Q4 : type_of% @RunK.exit := @RunK.exit
theorem Q5 : type_of% @RunK.ret := @RunK.ret
theorem Q6 : type_of% @RunK.label := @RunK.label
theorem Q7 : type_of% @outK.blkN := @outK.blkN
theorem Q8 : type_of% @outK.blkX := @outK.blkX
theorem Q9 : type_of% @outK.seqX := @outK.seqX
theorem Qa : type_of% @outK.seqR := @outK.seqR
theorem Qb : type_of% @outK.blkR := @outK.blkR
theorem Qc : type_of% @RunK.blockS := @RunK.blockS
theorem Qd : type_of% @RunK.blockR := @RunK.blockR
theorem Qe : type_of% @RunK.blockC := @RunK.blockC
theorem Qf : type_of% @RunK.blockB := @RunK.blockB
theorem Qo : type_of% @outK.blkO := @outK.blkO
theorem QT : type_of% @RunK.wT := @RunK.wT
theorem QF : type_of% @RunK.wF := @RunK.wF
theorem QS : type_of% @RunK.wS := @RunK.wS
theorem QC : type_of% @RunK.wC := @RunK.wC
theorem QD : type_of% @RunK.wD := @RunK.wD
theorem QW : type_of% @Work.mk := @Work.mk
theorem QK : type_of% @ChkD.mk := @ChkD.mk
theorem Qn : type_of% @Fits.nil := @Fits.nil
theorem Qr : type_of% @Fits.reg := @Fits.reg
theorem Qj : type_of% @Fits.obj := @Fits.obj
theorem Qw : type_of% @wk.same := @wk.same
end Go.Proofs.YtacbkjmkjpjhoaaGreat
namespace Go.Proofs.YtacbkjmkjpjhoaaGreat
open Go.RowKit
def ePt (x : Int × List (List Int)) : List D := [.int x.1, .sl 1 (x.2.map eL)]
def codPt : Cod (Int × List (List Int)) := codP 1 codI codLL (fun _ => rfl)
theorem codPts_d (xs : List (Int × List (List Int))) : (codS 2 codPt).d [.sl 2 (xs.map ePt)] = some xs := (codS 2 codPt).de xs
def leftI (left : Int) (n : Nat) : Int := if left - n < 0 then -1 else left - n
theorem leftI_no {left : Int} {n : Nat} (h : left - n < 0) : leftI left n = -1 := by unfold leftI; rw [if_pos h]
theorem leftI_ok {left : Int} {n : Nat} (h : ¬ left - n < 0) : leftI left n = left - n := by unfold leftI; rw [if_neg h]
theorem a_szInt64S (xs : List Int) (left : Int) (h0 : 0 ≤ left) (h1 : left ≤ 1048576) : AFn Tryz.prog 145 [eL xs, eI left] (· = [.val (.int (leftI left xs.length))]) :=
  AFn.of_s (v := .int .i64 _) (enters_of Tryz.func145 rfl rfl) (fun _ _ => rdV_int.2 ⟨rfl, by unfold leftI In64; split <;> omega⟩) (fun w A vs ⟨v1, _, e1, h1', v2, _, e2, h2, e3⟩ => by
    subst e3; subst e2; subst e1
    rw [arg_int h2]
    refine c_laws_szInt64S v1 xs left _ w (Rd.of (rd1 h1')) h0 h1 ?_
    unfold leftI
    split
    · exact .inl ⟨‹_›, rfl⟩
    · exact .inr ⟨by omega, rfl⟩)
noncomputable def TSz : Tab Tryz.prog := Tab.none.add 145 (tab2 codL codI fun xs n => if 0 ≤ n ∧ n ≤ 1048576 then some [.val (.int (leftI n xs.length))] else none) (tab2_ok fun xs n rs h => by split at h; cases h; exact a_szInt64S xs n (‹0 ≤ n ∧ _›).1 (‹0 ≤ n ∧ _›).2; cases h)
set_option maxHeartbeats 2000000 in
theorem a_szInt64SS (f : List (List Int)) (left : Int) (h0 : 0 ≤ left) (h1 : left ≤ 1048576) (hl : f.length ≤ 9223372036854775807) : AFn Tryz.prog 95 [eLL f, eI left] (· = [.val (.int (leftI left (f.length + sumLen f)))]) := by
  refine AFn.of_runs (cfg_ok 27) Tryz.func95 rfl rfl rfl (by simp only [List.length_cons, List.length_nil]; decide) ?_
  have hres : Tryz.f95.results.toList = [.tmp 4] := rfl
  have hrts : Tryz.f95.resultTypes.toList = [3] := rfl
  simp only [argRegs, argAV1, eL, eI, eLL, eB, Nat.zero_add, Nat.reduceAdd]
  intro M
  refine RunK.of ?_
  have hw := w64_eq (n := left - (f.length : Int)) (by omega)
  by_cases hn : left - (f.length : Int) < 0
  · have i1 : (left - (f.length : Int) < 0) = True := eq_true hn
    rw [leftI_no (by omega)]
    repeat' (first | with_reducible (first | refine Q1 ?_ | refine Q2 ?_ | refine Q3 ?_ | refine Q4 ?_ | refine Q5 ?_ | refine Q6 ?_ | refine Q7 ?_ | refine Q8 ?_ | refine Q9 ?_ | refine Qa ?_ | refine Qb ?_ | refine Qc ?_ | refine Qd ?_ | refine Qe ?_ | refine Qf ?_) | ((with_reducible refine Qo ?_ ?_); focus rfl) | ((with_reducible first | refine QT 6 (l := ?_) ?_ ?_ | refine QF 6 (l := ?_) ?_ ?_); rotate_left 1; focus (simp only [Zu, Nat.reduceSub, Nat.reduceBEq]; with_reducible rfl)) | ((with_reducible first | refine QS (cfg_ok 27) TSz (s' := ?_) ?_ ?_ | refine QC (b := ?_) ?_ ?_); rotate_left 1; focus ((with_reducible refine QW ?_); simp only [Zg, seval, if_true, if_false, reduceCtorEq, Nat.reduceEqDiff, TSz, hw, i1, List.length_map]; with_reducible rfl)))
    (refine Ends.mk (by simp) (rs := ?_) (ks := ?_) hres hrts ?_ ?_ ?_; rotate_left 2; (focus (simp only [Ze, Zg, seval, if_true, if_false, reduceCtorEq, Nat.reduceEqDiff]; with_reducible rfl)); (focus simp); focus (first | with_reducible rfl | (simp only [Zv]; done)))
  · have i1 : (left - (f.length : Int) < 0) = False := eq_false hn
    repeat' (first | with_reducible (first | refine Q1 ?_ | refine Q2 ?_ | refine Q3 ?_ | refine Q4 ?_ | refine Q5 ?_ | refine Q6 ?_ | refine Q7 ?_ | refine Q8 ?_ | refine Q9 ?_ | refine Qa ?_ | refine Qb ?_ | refine Qc ?_ | refine Qd ?_ | refine Qe ?_ | refine Qf ?_) | ((with_reducible refine Qo ?_ ?_); focus rfl) | ((with_reducible first | refine QT 6 (l := ?_) ?_ ?_ | refine QF 6 (l := ?_) ?_ ?_); rotate_left 1; focus (simp only [Zu, Nat.reduceSub, Nat.reduceBEq]; with_reducible rfl)) | ((with_reducible first | refine QS (cfg_ok 27) TSz (s' := ?_) ?_ ?_ | refine QC (b := ?_) ?_ ?_); rotate_left 1; focus ((with_reducible refine QW ?_); simp only [Zg, seval, if_true, if_false, reduceCtorEq, Nat.reduceEqDiff, TSz, hw, i1, List.length_map]; with_reducible rfl)))
    refine RunK.loop (β := Nat) (γ := Unit) (fun i => ⟨[(0, .c (.val (.sl 1 (f.map eL)))), (1, .c (.val (.int (left - f.length - (sumLen (f.take i) : Nat))))), (5, .c (.val (.int i)))], []⟩) (fun i => i ≤ f.length ∧ 0 ≤ left - f.length - (sumLen (f.take i) : Nat)) (fun i => f.length - i)
      (fun _ => ⟨[(1, .c (.val (.int (left - f.length - (sumLen f : Nat)))))], []⟩) (fun _ => 0 ≤ left - f.length - (sumLen f : Nat)) 0 ⟨Nat.zero_le _, by simp [sumLen]; omega⟩ ?_ ?_ ?_
    · have e : left - (f.length : Int) - (sumLen (f.take 0) : Nat) = left - (f.length : Int) := by simp [sumLen]
      rw [e]
      (repeat' (first | with_reducible refine Qn | ((with_reducible refine Qr ?_ ?_); focus (first | with_reducible rfl | (simp only [Zz, Nat.reduceBEq]; done) | rfl)) | ((with_reducible refine Qj (o' := ?_) ?_ ?_ ?_); rotate_left 1; focus rfl) | ((with_reducible refine Qw ?_ ?_); (focus (first | with_reducible rfl | (simp only [Zv]; done))); focus (first | exact id | exact (fun h => nomatch h) | exact (fun _ => rfl)))))
    · rintro i ⟨hi, hpos⟩
      have hw2 := w64_succ (n := i) (by omega)
      by_cases h : i < f.length
      · have i2 : ((i : Int) < (f.length : Int)) = True := eq_true (by omega)
        have i3 : ((0 : Int) ≤ (i : Int)) = True := eq_true (by omega)
        have hst := sumLen_take_succ f i h
        have hle := sumLen_take f (i + 1)
        obtain ⟨q, hq⟩ : ∃ q : Int, q = left - f.length - (sumLen (f.take i) : Nat) := ⟨_, rfl⟩
        obtain ⟨t, ht⟩ : ∃ t, t = f[i] := ⟨_, rfl⟩
        have hg : (f.map eL)[i]? = some [.sl 1 (t.map eI)] := by rw [map_get h, ht]; rfl
        rw [← ht] at hst
        rw [← hq] at hpos
        have j1 : (0 ≤ q ∧ q ≤ 1048576) = True := eq_true ⟨hpos, by omega⟩
        by_cases hng : q - (t.length : Int) < 0
        · have e := leftI_no (left := q) (n := t.length) hng
          rw [leftI_no (by omega), ← hq]
          repeat' (first | with_reducible (first | refine Q1 ?_ | refine Q2 ?_ | refine Q3 ?_ | refine Q4 ?_ | refine Q5 ?_ | refine Q6 ?_ | refine Q7 ?_ | refine Q8 ?_ | refine Q9 ?_ | refine Qa ?_ | refine Qb ?_ | refine Qc ?_ | refine Qd ?_ | refine Qe ?_ | refine Qf ?_) | ((with_reducible refine Qo ?_ ?_); focus rfl) | ((with_reducible first | refine QT 6 (l := ?_) ?_ ?_ | refine QF 6 (l := ?_) ?_ ?_); rotate_left 1; focus (simp only [Zu, Nat.reduceSub, Nat.reduceBEq]; with_reducible rfl)) | ((with_reducible first | refine QS (cfg_ok 27) TSz (s' := ?_) ?_ ?_ | refine QC (b := ?_) ?_ ?_); rotate_left 1; focus ((with_reducible refine QW ?_); simp only [Zg, seval, if_true, if_false, reduceCtorEq, Nat.reduceEqDiff, TSz, i2, i3, hg, j1, e, Int.toNat_natCast, List.length_map]; with_reducible rfl)))
          refine roundK.ret ?_
          repeat' (first | with_reducible (first | refine Q1 ?_ | refine Q2 ?_ | refine Q3 ?_ | refine Q4 ?_ | refine Q5 ?_ | refine Q6 ?_ | refine Q7 ?_ | refine Q8 ?_ | refine Q9 ?_ | refine Qa ?_ | refine Qb ?_ | refine Qc ?_ | refine Qd ?_ | refine Qe ?_ | refine Qf ?_) | ((with_reducible refine Qo ?_ ?_); focus rfl) | ((with_reducible first | refine QT 6 (l := ?_) ?_ ?_ | refine QF 6 (l := ?_) ?_ ?_); rotate_left 1; focus (simp only [Zu, Nat.reduceSub, Nat.reduceBEq]; with_reducible rfl)) | ((with_reducible first | refine QS (cfg_ok 27) TSz (s' := ?_) ?_ ?_ | refine QC (b := ?_) ?_ ?_); rotate_left 1; focus ((with_reducible refine QW ?_); simp only [Zg, seval, if_true, if_false, reduceCtorEq, Nat.reduceEqDiff, TSz]; with_reducible rfl)))
          (refine Ends.mk (by simp) (rs := ?_) (ks := ?_) hres hrts ?_ ?_ ?_; rotate_left 2; (focus (simp only [Ze, Zg, seval, if_true, if_false, reduceCtorEq, Nat.reduceEqDiff]; with_reducible rfl)); (focus simp); focus (first | with_reducible rfl | (simp only [Zv]; done)))
        · have e := leftI_ok (left := q) (n := t.length) hng
          have j2 : (q - (t.length : Int) < 0) = False := eq_false hng
          rw [← hq]
          repeat' (first | with_reducible (first | refine Q1 ?_ | refine Q2 ?_ | refine Q3 ?_ | refine Q4 ?_ | refine Q5 ?_ | refine Q6 ?_ | refine Q7 ?_ | refine Q8 ?_ | refine Q9 ?_ | refine Qa ?_ | refine Qb ?_ | refine Qc ?_ | refine Qd ?_ | refine Qe ?_ | refine Qf ?_) | ((with_reducible refine Qo ?_ ?_); focus rfl) | ((with_reducible first | refine QT 6 (l := ?_) ?_ ?_ | refine QF 6 (l := ?_) ?_ ?_); rotate_left 1; focus (simp only [Zu, Nat.reduceSub, Nat.reduceBEq]; with_reducible rfl)) | ((with_reducible first | refine QS (cfg_ok 27) TSz (s' := ?_) ?_ ?_ | refine QC (b := ?_) ?_ ?_); rotate_left 1; focus ((with_reducible refine QW ?_); simp only [Zg, seval, if_true, if_false, reduceCtorEq, Nat.reduceEqDiff, TSz, i2, i3, hg, j1, j2, e, hw2, Int.toNat_natCast, List.length_map]; with_reducible rfl)))
          have e2 : left - (f.length : Int) - (sumLen (f.take (i + 1)) : Nat) = q - (t.length : Int) := by omega
          refine roundK.on (i + 1) ⟨⟨h, by omega⟩, by omega⟩ ?_
          rw [e2]
          (repeat' (first | with_reducible refine Qn | ((with_reducible refine Qr ?_ ?_); focus (first | with_reducible rfl | (simp only [Zz, Nat.reduceBEq]; done) | rfl)) | ((with_reducible refine Qj (o' := ?_) ?_ ?_ ?_); rotate_left 1; focus rfl) | ((with_reducible refine Qw ?_ ?_); (focus (first | with_reducible rfl | (simp only [Zv]; done))); focus (first | exact id | exact (fun h => nomatch h) | exact (fun _ => rfl)))))
      · have i2 : ((i : Int) < (f.length : Int)) = False := eq_false (by omega)
        have hall : f.take i = f := List.take_of_length_le (by omega)
        rw [hall] at hpos ⊢
        repeat' (first | with_reducible (first | refine Q1 ?_ | refine Q2 ?_ | refine Q3 ?_ | refine Q4 ?_ | refine Q5 ?_ | refine Q6 ?_ | refine Q7 ?_ | refine Q8 ?_ | refine Q9 ?_ | refine Qa ?_ | refine Qb ?_ | refine Qc ?_ | refine Qd ?_ | refine Qe ?_ | refine Qf ?_) | ((with_reducible refine Qo ?_ ?_); focus rfl) | ((with_reducible first | refine QT 6 (l := ?_) ?_ ?_ | refine QF 6 (l := ?_) ?_ ?_); rotate_left 1; focus (simp only [Zu, Nat.reduceSub, Nat.reduceBEq]; with_reducible rfl)) | ((with_reducible first | refine QS (cfg_ok 27) TSz (s' := ?_) ?_ ?_ | refine QC (b := ?_) ?_ ?_); rotate_left 1; focus ((with_reducible refine QW ?_); simp only [Zg, seval, if_true, if_false, reduceCtorEq, Nat.reduceEqDiff, TSz, i2, List.length_map]; with_reducible rfl)))
        refine roundK.out () hpos ?_
        (repeat' (first | with_reducible refine Qn | ((with_reducible refine Qr ?_ ?_); focus (first | with_reducible rfl | (simp only [Zz, Nat.reduceBEq]; done) | rfl)) | ((with_reducible refine Qj (o' := ?_) ?_ ?_ ?_); rotate_left 1; focus rfl) | ((with_reducible refine Qw ?_ ?_); (focus (first | with_reducible rfl | (simp only [Zv]; done))); focus (first | exact id | exact (fun h => nomatch h) | exact (fun _ => rfl)))))
    · rintro _ hpos
      have e : leftI left (f.length + sumLen f) = left - f.length - (sumLen f : Nat) := by rw [leftI_ok (by omega)]; omega
      rw [e]
      repeat' (first | with_reducible (first | refine Q1 ?_ | refine Q2 ?_ | refine Q3 ?_ | refine Q4 ?_ | refine Q5 ?_ | refine Q6 ?_ | refine Q7 ?_ | refine Q8 ?_ | refine Q9 ?_ | refine Qa ?_ | refine Qb ?_ | refine Qc ?_ | refine Qd ?_ | refine Qe ?_ | refine Qf ?_) | ((with_reducible refine Qo ?_ ?_); focus rfl) | ((with_reducible first | refine QT 6 (l := ?_) ?_ ?_ | refine QF 6 (l := ?_) ?_ ?_); rotate_left 1; focus (simp only [Zu, Nat.reduceSub, Nat.reduceBEq]; with_reducible rfl)) | ((with_reducible first | refine QS (cfg_ok 27) TSz (s' := ?_) ?_ ?_ | refine QC (b := ?_) ?_ ?_); rotate_left 1; focus ((with_reducible refine QW ?_); simp only [Zg, seval, if_true, if_false, reduceCtorEq, Nat.reduceEqDiff, TSz]; with_reducible rfl)))
      (refine Ends.mk (by simp) (rs := ?_) (ks := ?_) hres hrts ?_ ?_ ?_; rotate_left 2; (focus (simp only [Ze, Zg, seval, if_true, if_false, reduceCtorEq, Nat.reduceEqDiff]; with_reducible rfl)); (focus simp); focus (first | with_reducible rfl | (simp only [Zv]; done)))
theorem a_szPart (n : Int) (f : List (List Int)) (left : Int) (h0 : 0 ≤ left) (h1 : left ≤ 1048576) (hl : f.length ≤ 9223372036854775807) : AFn Tryz.prog 47 [ePt (n, f), eI left] (· = [.val (.int (leftI left (f.length + sumLen f)))]) := by
  have ha := a_szInt64SS f left h0 h1 hl
  simp only [eLL, eI] at ha
  refine AFn.of_runs (cfg_ok 12) Tryz.func47 rfl rfl rfl (by simp only [List.length_cons, List.length_nil]; decide) ?_
  have hres : Tryz.f47.results.toList = [.tmp 4] := rfl
  have hrts : Tryz.f47.resultTypes.toList = [3] := rfl
  simp only [argRegs, argAV1, eL, eI, eLL, eB, Nat.zero_add, Nat.reduceAdd, ePt]
  intro M
  refine RunK.of ?_
  by_cases hn : left - ((f.length + sumLen f : Nat) : Int) < 0
  · rw [leftI_no hn] at ha ⊢
    repeat' (first | with_reducible (first | refine Q1 ?_ | refine Q2 ?_ | refine Q3 ?_ | refine Q4 ?_ | refine Q5 ?_ | refine Q6 ?_ | refine Q7 ?_ | refine Q8 ?_ | refine Q9 ?_ | refine Qa ?_ | refine Qb ?_ | refine Qc ?_ | refine Qd ?_ | refine Qe ?_ | refine Qf ?_) | ((with_reducible refine Qo ?_ ?_); focus rfl) | ((with_reducible first | refine QT 5 (l := ?_) ?_ ?_ | refine QF 5 (l := ?_) ?_ ?_); rotate_left 1; focus (simp only [Zu, Nat.reduceSub, Nat.reduceBEq]; with_reducible rfl)) | ((with_reducible first | refine QS (cfg_ok 12) ((Tab.none.at' 95 ha)) (s' := ?_) ?_ ?_ | refine QC (b := ?_) ?_ ?_); rotate_left 1; focus ((with_reducible refine QW ?_); simp only [Zg, seval, if_true, if_false, reduceCtorEq, Nat.reduceEqDiff]; with_reducible rfl)))
    (refine Ends.mk (by simp) (rs := ?_) (ks := ?_) hres hrts ?_ ?_ ?_; rotate_left 2; (focus (simp only [Ze, Zg, seval, if_true, if_false, reduceCtorEq, Nat.reduceEqDiff]; with_reducible rfl)); (focus simp); focus (first | with_reducible rfl | (simp only [Zv]; done)))
  · rw [leftI_ok hn] at ha ⊢
    have i1 : (left - ((f.length + sumLen f : Nat) : Int) < 0) = False := eq_false hn
    repeat' (first | with_reducible (first | refine Q1 ?_ | refine Q2 ?_ | refine Q3 ?_ | refine Q4 ?_ | refine Q5 ?_ | refine Q6 ?_ | refine Q7 ?_ | refine Q8 ?_ | refine Q9 ?_ | refine Qa ?_ | refine Qb ?_ | refine Qc ?_ | refine Qd ?_ | refine Qe ?_ | refine Qf ?_) | ((with_reducible refine Qo ?_ ?_); focus rfl) | ((with_reducible first | refine QT 5 (l := ?_) ?_ ?_ | refine QF 5 (l := ?_) ?_ ?_); rotate_left 1; focus (simp only [Zu, Nat.reduceSub, Nat.reduceBEq]; with_reducible rfl)) | ((with_reducible first | refine QS (cfg_ok 12) ((Tab.none.at' 95 ha)) (s' := ?_) ?_ ?_ | refine QC (b := ?_) ?_ ?_); rotate_left 1; focus ((with_reducible refine QW ?_); simp only [Zg, seval, if_true, if_false, reduceCtorEq, Nat.reduceEqDiff, i1]; with_reducible rfl)))
    (refine Ends.mk (by simp) (rs := ?_) (ks := ?_) hres hrts ?_ ?_ ?_; rotate_left 2; (focus (simp only [Ze, Zg, seval, if_true, if_false, reduceCtorEq, Nat.reduceEqDiff]; with_reducible rfl)); (focus simp); focus (first | with_reducible rfl | (simp only [Zv]; done)))
theorem szN_take : ∀ (e : List (Int × List (List Int))) (i : Nat) (h : i < e.length), szN (e.take (i + 1)) = szN (e.take i) + (e[i].2.length + sumLen e[i].2)
  | p :: e, 0, h => by simp [szN]
  | p :: e, i + 1, h => by
    have := szN_take e i (by simpa using h)
    simp only [List.take_succ_cons, List.getElem_cons_succ, szN]
    omega
theorem szN_le : ∀ (e : List (Int × List (List Int))) (i : Nat), szN (e.take i) ≤ szN e
  | [], i => by simp
  | p :: e, 0 => by simp [szN]
  | p :: e, i + 1 => by
    have := szN_le e i
    simp only [List.take_succ_cons, szN]
    omega
noncomputable def TSzP : Tab Tryz.prog := Tab.none.add 47 (tab2 codPt codI fun p n => if (0 ≤ n ∧ n ≤ 1048576) ∧ p.2.length ≤ 9223372036854775807 then some [.val (.int (leftI n (p.2.length + sumLen p.2)))] else none) (tab2_ok fun p n rs h => by split at h; cases h; exact a_szPart p.1 p.2 n (‹(0 ≤ n ∧ _) ∧ _›).1.1 (‹(0 ≤ n ∧ _) ∧ _›).1.2 (‹(0 ≤ n ∧ _) ∧ _›).2; cases h)
set_option maxHeartbeats 2000000 in
theorem a_szPartS (e : List (Int × List (List Int))) (left : Int) (h0 : 0 ≤ left) (h1 : left ≤ 1048576) (hl : e.length ≤ 9223372036854775807) (hpl : ∀ p ∈ e, p.2.length ≤ 9223372036854775807) : AFn Tryz.prog 12 [[.sl 2 (e.map ePt)], eI left] (· = [.val (.int (leftI left (e.length + szN e)))]) := by
  refine AFn.of_runs (cfg_ok 27) Tryz.func12 rfl rfl rfl (by simp only [List.length_cons, List.length_nil]; decide) ?_
  have hres : Tryz.f12.results.toList = [.tmp 4] := rfl
  have hrts : Tryz.f12.resultTypes.toList = [3] := rfl
  simp only [argRegs, argAV1, eL, eI, eLL, eB, Nat.zero_add, Nat.reduceAdd]
  intro M
  refine RunK.of ?_
  have hw := w64_eq (n := left - (e.length : Int)) (by omega)
  by_cases hn : left - (e.length : Int) < 0
  · have i1 : (left - (e.length : Int) < 0) = True := eq_true hn
    rw [leftI_no (by omega)]
    repeat' (first | with_reducible (first | refine Q1 ?_ | refine Q2 ?_ | refine Q3 ?_ | refine Q4 ?_ | refine Q5 ?_ | refine Q6 ?_ | refine Q7 ?_ | refine Q8 ?_ | refine Q9 ?_ | refine Qa ?_ | refine Qb ?_ | refine Qc ?_ | refine Qd ?_ | refine Qe ?_ | refine Qf ?_) | ((with_reducible refine Qo ?_ ?_); focus rfl) | ((with_reducible first | refine QT 6 (l := ?_) ?_ ?_ | refine QF 6 (l := ?_) ?_ ?_); rotate_left 1; focus (simp only [Zu, Nat.reduceSub, Nat.reduceBEq]; with_reducible rfl)) | ((with_reducible first | refine QS (cfg_ok 27) TSzP (s' := ?_) ?_ ?_ | refine QC (b := ?_) ?_ ?_); rotate_left 1; focus ((with_reducible refine QW ?_); simp only [Zg, seval, if_true, if_false, reduceCtorEq, Nat.reduceEqDiff, TSzP, hw, i1, List.length_map]; with_reducible rfl)))
    (refine Ends.mk (by simp) (rs := ?_) (ks := ?_) hres hrts ?_ ?_ ?_; rotate_left 2; (focus (simp only [Ze, Zg, seval, if_true, if_false, reduceCtorEq, Nat.reduceEqDiff]; with_reducible rfl)); (focus simp); focus (first | with_reducible rfl | (simp only [Zv]; done)))
  · have i1 : (left - (e.length : Int) < 0) = False := eq_false hn
    repeat' (first | with_reducible (first | refine Q1 ?_ | refine Q2 ?_ | refine Q3 ?_ | refine Q4 ?_ | refine Q5 ?_ | refine Q6 ?_ | refine Q7 ?_ | refine Q8 ?_ | refine Q9 ?_ | refine Qa ?_ | refine Qb ?_ | refine Qc ?_ | refine Qd ?_ | refine Qe ?_ | refine Qf ?_) | ((with_reducible refine Qo ?_ ?_); focus rfl) | ((with_reducible first | refine QT 6 (l := ?_) ?_ ?_ | refine QF 6 (l := ?_) ?_ ?_); rotate_left 1; focus (simp only [Zu, Nat.reduceSub, Nat.reduceBEq]; with_reducible rfl)) | ((with_reducible first | refine QS (cfg_ok 27) TSzP (s' := ?_) ?_ ?_ | refine QC (b := ?_) ?_ ?_); rotate_left 1; focus ((with_reducible refine QW ?_); simp only [Zg, seval, if_true, if_false, reduceCtorEq, Nat.reduceEqDiff, TSzP, hw, i1, List.length_map]; with_reducible rfl)))
    refine RunK.loop (β := Nat) (γ := Unit) (fun i => ⟨[(0, .c (.val (.sl 2 (e.map ePt)))), (1, .c (.val (.int (left - e.length - (szN (e.take i) : Nat))))), (5, .c (.val (.int i)))], []⟩) (fun i => i ≤ e.length ∧ 0 ≤ left - (e.length : Int) - (szN (e.take i) : Nat)) (fun i => e.length - i)
      (fun _ => ⟨[(1, .c (.val (.int (left - e.length - (szN e : Nat)))))], []⟩) (fun _ => 0 ≤ left - (e.length : Int) - (szN e : Nat)) 0 ⟨Nat.zero_le _, by simp [szN]; omega⟩ ?_ ?_ ?_
    · have e2 : left - (e.length : Int) - (szN (e.take 0) : Nat) = left - (e.length : Int) := by simp [szN]
      rw [e2]
      (repeat' (first | with_reducible refine Qn | ((with_reducible refine Qr ?_ ?_); focus (first | with_reducible rfl | (simp only [Zz, Nat.reduceBEq]; done) | rfl)) | ((with_reducible refine Qj (o' := ?_) ?_ ?_ ?_); rotate_left 1; focus rfl) | ((with_reducible refine Qw ?_ ?_); (focus (first | with_reducible rfl | (simp only [Zv]; done))); focus (first | exact id | exact (fun h => nomatch h) | exact (fun _ => rfl)))))
    · rintro i ⟨hi, hpos⟩
      have hw2 := w64_succ (n := i) (by omega)
      by_cases h : i < e.length
      · have i2 : ((i : Int) < (e.length : Int)) = True := eq_true (by omega)
        have i3 : ((0 : Int) ≤ (i : Int)) = True := eq_true (by omega)
        have hst := szN_take e i h
        have hle := szN_le e (i + 1)
        obtain ⟨q, hq⟩ : ∃ q : Int, q = left - e.length - (szN (e.take i) : Nat) := ⟨_, rfl⟩
        obtain ⟨c, f, ht⟩ : ∃ c f, (c, f) = e[i] := ⟨_, _, rfl⟩
        have hpi := hpl e[i] (List.getElem_mem h)
        have hg : (e.map ePt)[i]? = some [.int c, .sl 1 (f.map eL)] := by rw [map_get h, ← ht]; rfl
        rw [← ht] at hst hpi
        simp only at hst hpi
        rw [← hq] at hpos
        have hsz := a_szPart c f q hpos (by omega) hpi
        simp only [ePt, eI] at hsz
        by_cases hng : q - ((f.length + sumLen f : Nat) : Int) < 0
        · rw [leftI_no hng] at hsz
          rw [leftI_no (by omega), ← hq]
          repeat' (first | with_reducible (first | refine Q1 ?_ | refine Q2 ?_ | refine Q3 ?_ | refine Q4 ?_ | refine Q5 ?_ | refine Q6 ?_ | refine Q7 ?_ | refine Q8 ?_ | refine Q9 ?_ | refine Qa ?_ | refine Qb ?_ | refine Qc ?_ | refine Qd ?_ | refine Qe ?_ | refine Qf ?_) | ((with_reducible refine Qo ?_ ?_); focus rfl) | ((with_reducible first | refine QT 6 (l := ?_) ?_ ?_ | refine QF 6 (l := ?_) ?_ ?_); rotate_left 1; focus (simp only [Zu, Nat.reduceSub, Nat.reduceBEq]; with_reducible rfl)) | ((with_reducible first | refine QS (cfg_ok 27) ((Tab.none.at' 47 hsz)) (s' := ?_) ?_ ?_ | refine QC (b := ?_) ?_ ?_); rotate_left 1; focus ((with_reducible refine QW ?_); simp only [Zg, seval, if_true, if_false, reduceCtorEq, Nat.reduceEqDiff, i2, i3, hg, Int.toNat_natCast, List.length_map]; with_reducible rfl)))
          refine roundK.ret ?_
          repeat' (first | with_reducible (first | refine Q1 ?_ | refine Q2 ?_ | refine Q3 ?_ | refine Q4 ?_ | refine Q5 ?_ | refine Q6 ?_ | refine Q7 ?_ | refine Q8 ?_ | refine Q9 ?_ | refine Qa ?_ | refine Qb ?_ | refine Qc ?_ | refine Qd ?_ | refine Qe ?_ | refine Qf ?_) | ((with_reducible refine Qo ?_ ?_); focus rfl) | ((with_reducible first | refine QT 6 (l := ?_) ?_ ?_ | refine QF 6 (l := ?_) ?_ ?_); rotate_left 1; focus (simp only [Zu, Nat.reduceSub, Nat.reduceBEq]; with_reducible rfl)) | ((with_reducible first | refine QS (cfg_ok 27) Tab.none (s' := ?_) ?_ ?_ | refine QC (b := ?_) ?_ ?_); rotate_left 1; focus ((with_reducible refine QW ?_); simp only [Zg, seval, if_true, if_false, reduceCtorEq, Nat.reduceEqDiff]; with_reducible rfl)))
          (refine Ends.mk (by simp) (rs := ?_) (ks := ?_) hres hrts ?_ ?_ ?_; rotate_left 2; (focus (simp only [Ze, Zg, seval, if_true, if_false, reduceCtorEq, Nat.reduceEqDiff]; with_reducible rfl)); (focus simp); focus (first | with_reducible rfl | (simp only [Zv]; done)))
        · rw [leftI_ok hng] at hsz
          have j2 : (q - ((f.length + sumLen f : Nat) : Int) < 0) = False := eq_false hng
          rw [← hq]
          repeat' (first | with_reducible (first | refine Q1 ?_ | refine Q2 ?_ | refine Q3 ?_ | refine Q4 ?_ | refine Q5 ?_ | refine Q6 ?_ | refine Q7 ?_ | refine Q8 ?_ | refine Q9 ?_ | refine Qa ?_ | refine Qb ?_ | refine Qc ?_ | refine Qd ?_ | refine Qe ?_ | refine Qf ?_) | ((with_reducible refine Qo ?_ ?_); focus rfl) | ((with_reducible first | refine QT 6 (l := ?_) ?_ ?_ | refine QF 6 (l := ?_) ?_ ?_); rotate_left 1; focus (simp only [Zu, Nat.reduceSub, Nat.reduceBEq]; with_reducible rfl)) | ((with_reducible first | refine QS (cfg_ok 27) ((Tab.none.at' 47 hsz)) (s' := ?_) ?_ ?_ | refine QC (b := ?_) ?_ ?_); rotate_left 1; focus ((with_reducible refine QW ?_); simp only [Zg, seval, if_true, if_false, reduceCtorEq, Nat.reduceEqDiff, i2, i3, hg, j2, hw2, Int.toNat_natCast, List.length_map]; with_reducible rfl)))
          have e2 : left - (e.length : Int) - (szN (e.take (i + 1)) : Nat) = q - ((f.length + sumLen f : Nat) : Int) := by omega
          refine roundK.on (i + 1) ⟨⟨h, by omega⟩, by omega⟩ ?_
          rw [e2]
          (repeat' (first | with_reducible refine Qn | ((with_reducible refine Qr ?_ ?_); focus (first | with_reducible rfl | (simp only [Zz, Nat.reduceBEq]; done) | rfl)) | ((with_reducible refine Qj (o' := ?_) ?_ ?_ ?_); rotate_left 1; focus rfl) | ((with_reducible refine Qw ?_ ?_); (focus (first | with_reducible rfl | (simp only [Zv]; done))); focus (first | exact id | exact (fun h => nomatch h) | exact (fun _ => rfl)))))
      · have i2 : ((i : Int) < (e.length : Int)) = False := eq_false (by omega)
        have hall : e.take i = e := List.take_of_length_le (by omega)
        rw [hall] at hpos ⊢
        repeat' (first | with_reducible (first | refine Q1 ?_ | refine Q2 ?_ | refine Q3 ?_ | refine Q4 ?_ | refine Q5 ?_ | refine Q6 ?_ | refine Q7 ?_ | refine Q8 ?_ | refine Q9 ?_ | refine Qa ?_ | refine Qb ?_ | refine Qc ?_ | refine Qd ?_ | refine Qe ?_ | refine Qf ?_) | ((with_reducible refine Qo ?_ ?_); focus rfl) | ((with_reducible first | refine QT 6 (l := ?_) ?_ ?_ | refine QF 6 (l := ?_) ?_ ?_); rotate_left 1; focus (simp only [Zu, Nat.reduceSub, Nat.reduceBEq]; with_reducible rfl)) | ((with_reducible first | refine QS (cfg_ok 27) Tab.none (s' := ?_) ?_ ?_ | refine QC (b := ?_) ?_ ?_); rotate_left 1; focus ((with_reducible refine QW ?_); simp only [Zg, seval, if_true, if_false, reduceCtorEq, Nat.reduceEqDiff, i2, List.length_map]; with_reducible rfl)))
        refine roundK.out () hpos ?_
        (repeat' (first | with_reducible refine Qn | ((with_reducible refine Qr ?_ ?_); focus (first | with_reducible rfl | (simp only [Zz, Nat.reduceBEq]; done) | rfl)) | ((with_reducible refine Qj (o' := ?_) ?_ ?_ ?_); rotate_left 1; focus rfl) | ((with_reducible refine Qw ?_ ?_); (focus (first | with_reducible rfl | (simp only [Zv]; done))); focus (first | exact id | exact (fun h => nomatch h) | exact (fun _ => rfl)))))
    · rintro _ hpos
      have e2 : leftI left (e.length + szN e) = left - e.length - (szN e : Nat) := by rw [leftI_ok (by omega)]; omega
      rw [e2]
      repeat' (first | with_reducible (first | refine Q1 ?_ | refine Q2 ?_ | refine Q3 ?_ | refine Q4 ?_ | refine Q5 ?_ | refine Q6 ?_ | refine Q7 ?_ | refine Q8 ?_ | refine Q9 ?_ | refine Qa ?_ | refine Qb ?_ | refine Qc ?_ | refine Qd ?_ | refine Qe ?_ | refine Qf ?_) | ((with_reducible refine Qo ?_ ?_); focus rfl) | ((with_reducible first | refine QT 6 (l := ?_) ?_ ?_ | refine QF 6 (l := ?_) ?_ ?_); rotate_left 1; focus (simp only [Zu, Nat.reduceSub, Nat.reduceBEq]; with_reducible rfl)) | ((with_reducible first | refine QS (cfg_ok 27) Tab.none (s' := ?_) ?_ ?_ | refine QC (b := ?_) ?_ ?_); rotate_left 1; focus ((with_reducible refine QW ?_); simp only [Zg, seval, if_true, if_false, reduceCtorEq, Nat.reduceEqDiff]; with_reducible rfl)))
      (refine Ends.mk (by simp) (rs := ?_) (ks := ?_) hres hrts ?_ ?_ ?_; rotate_left 2; (focus (simp only [Ze, Zg, seval, if_true, if_false, reduceCtorEq, Nat.reduceEqDiff]; with_reducible rfl)); (focus simp); focus (first | with_reducible rfl | (simp only [Zv]; done)))
theorem arg_P {w : World} {u : Value} {xs : List (Int × List (List Int))} (h : Rd (RS RPart) w [u] xs) : relArg (· < w.heap.size) w [.sl 2 (xs.map ePt)] u := ((encS (encP encI (encS (encS encI)))).rdV (x := xs) rfl).1 h
theorem sz_P (v : Value) (xs : List (Int × List (List Int))) (left : Int) (w : World) (h : Rd (RS RPart) w [v] xs) (h0 : 0 ≤ left) (h1 : left ≤ 1048576) :
    Calls Tryz.prog 12 #[v, .int .i64 left] w fun e w' => ∃ r, e = .returned (.int .i64 r) ∧ ((r < 0 ∧ True) ∨ (0 ≤ r ∧ r ≤ 1048576 ∧ szP xs)) ∧ Below w.heap.size w w' := by
  obtain ⟨oa, cap, hv, m1, m2⟩ := h.val
  unfold maxLen at m2
  have hpl : ∀ p ∈ xs, p.2.length ≤ 9223372036854775807 := fun p hp => by
    obtain ⟨i, hi, rfl⟩ := List.getElem_of_mem hp
    obtain ⟨b, off, cap, s, _, _, _, _, _, hr⟩ := h.partAt (S := RS (RS RI)) rfl i hi
    obtain ⟨o1, c1, _, l1, l2⟩ := hr.val
    unfold maxLen at l2
    omega
  have ha := AFn.one (v := .int .i64 _) (fun A w u hu => (rdV_int.1 hu).1) (a_szPartS xs left h0 h1 (by omega) hpl) (args2 (arg_P h) (arg_I (by unfold In64; omega)))
  refine ha.mono ?_
  rintro e w' ⟨rfl, hb⟩
  refine ⟨_, rfl, ?_, hb⟩
  by_cases hn : left - (xs.length + szN xs : Nat) < 0
  · rw [leftI_no hn]; exact .inl ⟨by decide, trivial⟩
  · rw [leftI_ok hn]; exact .inr ⟨by omega, by omega, by unfold szP; omega⟩
set_option maxRecDepth 20000 in
theorem opPart : Opens Tryz.prog RPart 65 := by
  intro H enc w base spare held fuel cs x h
  obtain ⟨y0, y1, n, _, hl, h0, h1⟩ := Go.ChangeShapes.trod_struct2 Tryz.underlying65 h
  have c0 : Tryz.prog.cellsOf 2 = 1 := by kernel_rfl
  have c1 : Tryz.prog.cellsOf 50 = 1 := by kernel_rfl
  have hl2 : cs.length = 2 := by rw [hl]; kernel_rfl
  match cs, hl2 with
  | [a, b], _ =>
    simp only [c0, c1, List.drop_zero, List.drop_succ_cons, List.take_succ_cons, List.take_zero] at h0 h1
    obtain ⟨y, hy⟩ := opI64 _ _ _ _ _ _ _ _ _ h0
    obtain ⟨z, hz⟩ := opI64SS _ _ _ _ _ _ _ _ _ h1
    exact ⟨(y, z), [a], [b], rfl, hy, hz⟩
theorem opPartS : Opens Tryz.prog (RS RPart) 22 := Opens.slice Tryz.underlying22 (by kernel_rfl) opPart
end Go.Proofs.YtacbkjmkjpjhoaaGreat
namespace Go.Proofs.YtacbkjmkjpjhoaaGreat
open Go.RowKit
theorem Row.take {w : World} {k n m cap : Nat} {ds : List Value} {og : Option Nat} (h : Row w (slv og n cap) k n ds og) (hm : m ≤ n) : Row w (slv og m cap) k m (ds.take (m * k)) og := by
  refine ⟨by rw [List.length_take, h.1]; exact Nat.min_eq_left (Nat.mul_le_mul_right k hm), ?_⟩
  rcases h.2 with ⟨h1, h2, h3⟩ | ⟨g, c, cur, e, h1, h2, h3, h4, h5, h6, h7⟩
  · subst h3
    exact .inl ⟨rfl, by omega, rfl⟩
  · subst h2
    have hc : cap = c := by
      unfold slv at h1
      simp only [Value.slice.injEq] at h1
      exact h1.2.2
    subst hc
    refine .inr ⟨g, cap, cur, e, rfl, rfl, h3, by omega, h5, h6, ?_⟩
    rw [← h7, List.take_take, Nat.min_eq_left (Nat.mul_le_mul_right k hm)]
section
variable {P : Program} {cfg : Cfg} {M : Nat → Prop} {w0 : W0} {w w' : World} {Ok : Nat → Prop} {N : Nat} {σ : Asg} {s : St} {a : Act} {ops : Array Oper}
theorem Sim.trunc (h : Sim w0 Ok N σ s a w) {key k n : Nat} {xs : List (List D)} {d : Bool} (hk : look key s.heap = some (.row k xs d)) (hn : n ≤ xs.length) (hnr : ∀ q u, q ≠ key → look q s.heap = some u → key ∉ u.refs) :
    Sim w0 Ok N σ ⟨killR key s.regs, insR key (.row k (xs.take n) false) s.heap⟩ a w := by
  have hro := h.rows key _ hk
  obtain ⟨ds, hrow, hkp, hrd⟩ := RowOK.rd h.ok1 h.rows h.disj hk
  have hlen : (xs.take n).length = n := by rw [List.length_take]; omega
  have hfp0 : ∀ b ∈ fp σ key (.row k (xs.take n) false), b ∈ fp σ key (.row k xs d) := by
    intro b hb
    have hb : b ∈ (σ.g key).toList ++ [] := hb
    rw [List.append_nil] at hb
    exact List.mem_append_left _ hb
  have hl : ∀ q o', look q (insR key (.row k (xs.take n) false) s.heap) = some o' → (q = key ∧ o' = .row k (xs.take n) false) ∨ (q ≠ key ∧ look q s.heap = some o') := by
    intro q o' ho'
    rw [look_ins] at ho'
    split at ho'
    · rename_i e; cases ho'; exact .inl ⟨e.symm, rfl⟩
    · rename_i e; exact .inr ⟨fun e' => e e'.symm, ho'⟩
  have hZ : Kept σ σ s.heap (insR key (.row k (xs.take n) false) s.heap) w w := fun b hb => ⟨⟨hb.1, hb.2.1, fun q o' ho' => by
    rcases hl q o' ho' with ⟨rfl, _⟩ | ⟨_, ho⟩
    · exact hb.2.2 q _ hk
    · exact hb.2.2 q _ ho⟩, rfl⟩
  have hst : ∀ q, q ≠ key → Stays σ σ s.heap (insR key (.row k (xs.take n) false) s.heap) q := fun q hq o' ho' => by
    rcases hl q o' ho' with ⟨e, _⟩ | ⟨_, ho⟩
    · exact absurd e hq
    · exact ⟨o', ho, rfl, rfl, rfl, rfl⟩
  refine (h.killed key).step rfl h.below hZ (fun r av hr => ⟨av, hr, .inl ⟨rfl, fun q hq => hst q ?_⟩⟩) (fun q o' ho' => ?_) (fun p o1 q u hp hq hpq b hb hb' => ?_)
  · have hr' : look r (killR key s.regs) = some av := hr
    rw [look_killR] at hr'
    obtain ⟨v, _, rfl⟩ := map_some hr'
    exact (AV.kill_refs hq).1
  · rcases hl q o' ho' with ⟨rfl, rfl⟩ | ⟨hq, ho⟩
    · refine ⟨⟨ds.take (n * k), ?_, hkp, ?_⟩, fun b hb => hro.fresh b (hfp0 b hb), ?_⟩
      · show Row w (slv (σ.g q) (xs.take n).length (σ.cap q)) k (xs.take n).length _ (σ.g q)
        rw [hlen]
        exact Row.take hrow hn
      · show rdR k _ w _ (xs.take n)
        exact (hrd.take n hn).mono (fun b hb _ => (hZ b hb).1)
      · show ((σ.g q).toList ++ []).Nodup
        rw [List.append_nil]
        cases σ.g q <;> simp
    · exact RowOK.keep h.ok1 h.rows h.disj ho hZ (fun q' hq' => hst q' (fun e => hnr q o' hq ho (e ▸ hq'))) rfl rfl rfl (fun _ _ => rfl)
  · have hp2 : ∃ o2, look p s.heap = some o2 ∧ b ∈ fp σ p o2 := by
      rcases hl p o1 hp with ⟨rfl, rfl⟩ | ⟨_, ho⟩
      · exact ⟨_, hk, hfp0 b hb⟩
      · exact ⟨_, ho, hb⟩
    have hq2 : ∃ o2, look q s.heap = some o2 ∧ b ∈ fp σ q o2 := by
      rcases hl q u hq with ⟨rfl, rfl⟩ | ⟨_, ho⟩
      · exact ⟨_, hk, hfp0 b hb'⟩
      · exact ⟨_, ho, hb'⟩
    obtain ⟨o2, ho2, hb2⟩ := hp2
    obtain ⟨u2, hu2, hb3⟩ := hq2
    exact h.disj p o2 q u2 ho2 hu2 hpq b hb2 hb3
theorem cellD_un {z d : D} {k : Nat} {xs : List (List D)} (h : d.un = .sl k xs) : cellD z (.val d) = some (d, false) := by
  cases d with
  | sl => rfl
  | tag => rfl
  | int => cases h
  | bool => cases h
  | raw => cases h
theorem RunK.regCut (C : CfgOK P cfg) (T : Tab P) {fs : List Fr} {Q : Exit → St → Prop} {id : Nat} (n : Nat) {s1 : St} (ha : Work (aopsT cfg T ops (ops.toList.take n) s) (some s1))
    (h : ROps P cfg M ops (ops.toList.drop n) (outK P cfg M fs Q .normal) s1) : RunK P cfg M (.region id ops false) fs Q s := by
  refine Runs.region ?_
  have e : ops.toList = ops.toList.take n ++ ops.toList.drop n := (List.take_append_drop n _).symm
  have cut : ∀ (l m : List Oper) (s : St), aopsT cfg T ops l s = some s1 → ROps P cfg M ops m (outK P cfg M fs Q .normal) s1 → ROps P cfg M ops (l ++ m) (outK P cfg M fs Q .normal) s := by
    intro l
    induction l with
    | nil => intro m s h1 h2; simp only [aopsT, Option.some.injEq] at h1; subst h1; exact h2
    | cons o l ih =>
      intro m s h1 h2
      simp only [aopsT] at h1
      obtain ⟨s2, h3, h4⟩ := bind_some h1
      exact ROps.stepT C h3 (ih m s2 h4 h2)
  rw [e]
  exact cut _ _ s ha h
theorem ROps.trunc (C : CfgOK P cfg) {o : Oper} {l : List Oper} {Q : St → Prop} {x hi : Operand} {t : TypeId} {i : TyI} {d key m n k : Nat} {xs : List (List D)} {dd : Bool} (ho : o.op = .slice t x none (some hi) none) (hg : o.guard = none) (hd : o.dst = some d) (hdN : d < cfg.N)
    (ht : cfg.sl t = some i) (hx : opv s.regs x = some (.c (.own key m))) (hh : (opv s.regs hi).bind avI = some (n : Int)) (hk : look key s.heap = some (.row k xs dd)) (hle : n ≤ xs.length) (hnr : ∀ q u, q ≠ key → look q s.heap = some u → key ∉ u.refs)
    (h : ROps P cfg M ops l Q ⟨insR d (.c (.own key n)) (killR key s.regs), insR key (.row k (xs.take n) false) s.heap⟩) : ROps P cfg M ops (o :: l) Q s := by
  intro w0 Ok σ a w Q' hM hS hQ
  refine wpList_step (fun K hK => ?_)
  have hw : awanted ops s.regs o = some true := by unfold awanted; rw [hg]
  rw [awanted_spec hS hw]
  simp only [if_true]
  obtain ⟨z, T, _⟩ := C.sl t i ht
  obtain ⟨ti, hti, _, hsz, _⟩ := T.hi
  have hxr := (opv_rel hS hx).2 _ hk
  obtain ⟨e1, e2⟩ := hxr
  have e1 : m = xs.length := e1
  obtain ⟨hv, h3, h4⟩ := bind_some hh
  have hhi : a.eval hi = .int .i64 n := (rdV_int.1 (show rdV (Zn σ s.heap w) w (a.eval hi) (.int n) by
    have hr := opv_rel hS h3
    unfold avI at h4
    split at h4
    · cases h4; exact hr.2
    · cases h4)).1
  have hro := hS.rows key _ hk
  obtain ⟨ds, hrow, _⟩ := hro.row
  have hrow : Row w (slv (σ.g key) xs.length (σ.cap key)) k xs.length ds (σ.g key) := hrow
  obtain ⟨oa, c, ev, k1, k2, k3, k4⟩ := slv_len hrow
  have hxe : a.eval x = .slice oa m c := by rw [e2, e1]; exact ev
  have hrun : (execOp a.eval o).run P w = .ok (.value (slv (σ.g key) n (σ.cap key))) w := by
    unfold execOp
    rw [ho]
    have := run_sliceSl (P := P) T.ht ⟨ti, hti, hsz⟩ (oa := oa) (m := m) (c := c) (lo := none) (hi := some (n : Int)) (by simp) (by simp) (by simp; omega) (by rw [e1]; exact k1) w
    simp only [Option.getD_none, Option.getD_some, Option.map_none, Option.map_some] at this
    rw [show (0 : Int).toNat = 0 from rfl, Int.toNat_natCast, Nat.sub_zero, Nat.sub_zero, Nat.zero_mul] at this
    have hval : (Value.slice (if c = 0 then oa else oa.map (·.add 0)) n c) = slv (σ.g key) n (σ.cap key) := by
      cases hgk : σ.g key with
      | none =>
        rw [hgk] at k4 hrow
        have h0 := hrow.len0
        have hoa : oa = none := k4
        have hc0 := k3 hoa
        subst hoa
        have : n = 0 := by omega
        subst this; subst hc0
        rfl
      | some b =>
        rw [hgk] at k4 ev
        have hoa : oa = some ⟨b, 0, none⟩ := k4
        unfold slv at ev
        simp only [Value.slice.injEq] at ev
        rw [hoa, ← ev.2.2]
        simp [slv, Addr.add]
    rw [← hval]
    simp only [hxe, hhi, Option.map_none, Option.map_some]
    simp [this]
  unfold Oper.wp
  rw [hrun]
  show K (a.put o.dst _) _
  rw [hd]
  have hS2 := hS.trunc hk hle hnr
  refine hK _ _ (h w0 Ok σ _ _ Q' hM (Sim.ins hS2 hdN ⟨by cases σ.g key <;> rfl, fun o' ho' => ?_⟩) hQ)
  rw [look_ins, if_pos rfl] at ho'
  cases ho'
  have hlen : (xs.take n).length = n := by rw [List.length_take]; omega
  exact ⟨hlen.symm, rfl⟩
theorem ROps.clear (C : CfgOK P cfg) {o : Oper} {l : List Oper} {Q : St → Prop} {x : Operand} {t : TypeId} {i : TyI} {key j m k : Nat} {xs : List (List D)} {dd : Bool} (ho : o.op = .call ⟨.builtin .clear, #[x], #[t]⟩) (hg : o.guard = none) (hd : o.dst = none)
    (ht : cfg.sl t = some i) (hx : opv s.regs x = some (.c (.view key j m))) (hk : look key s.heap = some (.row k xs dd)) (hki : k = i.z.length) (hle : j + m = xs.length)
    (h : ROps P cfg M ops l Q ⟨s.regs, insR key (.row k (xs.take j ++ List.replicate m i.z) false) s.heap⟩) : ROps P cfg M ops (o :: l) Q s := by
  intro w0 Ok σ a w Q' hM hS hQ
  refine wpList_step (fun K hK => ?_)
  have hw : awanted ops s.regs o = some true := by unfold awanted; rw [hg]
  rw [awanted_spec hS hw]
  simp only [if_true]
  obtain ⟨z, T, hz⟩ := C.sl t i ht
  obtain ⟨_, oa, c, ev, v1, v2, v3, v4⟩ := (opv_rel hS hx).2 _ hk
  have hro := hS.rows key _ hk
  obtain ⟨ds, hrow, hkp, hrd⟩ := RowOK.rd hS.ok1 hS.rows hS.disj hk
  have hlen : (xs.take j ++ List.replicate m i.z).length = xs.length := by simp; omega
  obtain ⟨W, hrun, hR, hgr⟩ : ∃ W, (execOp a.eval o).run P w = .ok (.value (.tuple #[])) W ∧ Row W (slv (σ.g key) xs.length (σ.cap key)) k xs.length (ds.take (j * k) ++ (List.replicate m (i.z.map zval)).flatten) (σ.g key) ∧ w.grownBy W (σ.g key) := by
    rcases v4 with rfl | ⟨b, hgb, rfl⟩
    · refine ⟨w, ?_, ?_, World.grownBy.refl _ _⟩
      · unfold execOp
        rw [ho]
        cases oa <;> simp [resolve, invoke, builtin, ev, Builtin.clear_, run_underlying T.ht]
      · have : ds.take (j * k) = ds := List.take_of_length_le (by rw [hrow.1]; simp at hle; rw [hle]; exact Nat.le_refl _)
        rw [this]; simpa using hrow
    · rw [hgb] at hrow ⊢
      have ev : a.eval x = .slice (some ⟨b, j * k, none⟩) m c := ev
      obtain ⟨cs, hcs⟩ : ∃ cs, cs = (Builtin.zeroCells z.cells m).toList := ⟨_, rfl⟩
      have hcs2 : cs = (List.replicate m (i.z.map zval)).flatten := by
        rw [hcs, ← madeCells_rep hz T.hk m]
        have hs : z.cells.size = i.z.length := by rw [← Array.length_toList, hz.1, List.length_map]
        unfold Builtin.zeroCells madeCells
        rw [hs]
      have hcl : cs.length = m * k := by rw [hcs2, hki]; simp
      have hone : ∀ v ∈ cs, v.oneCell' = true := by
        intro v hv
        rw [hcs2] at hv
        have := (rep_own hz.2 T.hk w m).rd.one
        exact this v hv
      have hoff : j * k + cs.length ≤ ds.length := by rw [hrow.1, hcl, ← Nat.add_mul, hle]; exact Nat.le_refl _
      obtain ⟨r1, r2⟩ := Row.storeCells cs (j * k) hrow hoff
      refine ⟨w.setCells b (j * k) cs, ?_, ?_, r2⟩
      · have hst := run_storeCells_cells (P := P) b (j * k) cs 0 w (fun q hq => by
          rw [Nat.add_zero]
          have hlt : j * k + q < ds.length := by omega
          rw [hrow.cells (j * k + q) ds[j * k + q] (List.getElem?_eq_getElem hlt)]; rfl) (fun q hq => hrow.frozen _) hone
        rw [Nat.add_zero] at hst
        unfold execOp
        rw [ho]
        cases m with
        | zero =>
          have : cs = [] := by rw [hcs2]; rfl
          subst this
          simp [resolve, invoke, builtin, ev, Builtin.clear_, run_underlying T.ht]
          rfl
        | succ m =>
          obtain ⟨ti, hti, hzz, hsz, _⟩ := T.hi
          simp [resolve, invoke, builtin, ev, Builtin.clear_, run_underlying T.ht, zeroValue, typeInfo, hti, hzz, ← hcs, hst]
      · rw [hcs2] at r1 ⊢
        have e : splice ds (j * k) ((List.replicate m (i.z.map zval)).flatten) = ds.take (j * k) ++ (List.replicate m (i.z.map zval)).flatten := by
          unfold splice
          rw [List.drop_of_length_le (by rw [hrow.1, ← hcs2, hcl, ← Nat.add_mul, hle]; exact Nat.le_refl _), List.append_nil]
        rw [e] at r1
        exact r1
  unfold Oper.wp
  rw [hrun]
  show K (a.put o.dst _) _
  rw [hd]
  have hl : ∀ q o', look q (insR key (.row k (xs.take j ++ List.replicate m i.z) false) s.heap) = some o' → (q = key ∧ o' = .row k (xs.take j ++ List.replicate m i.z) false) ∨ (q ≠ key ∧ look q s.heap = some o') := by
    intro q o' ho'
    rw [look_ins] at ho'
    split at ho'
    · rename_i e; cases ho'; exact .inl ⟨e.symm, rfl⟩
    · rename_i e; exact .inr ⟨fun e' => e e'.symm, ho'⟩
  have hblk : ∀ b, b < w.heap.size → σ.g key ≠ some b → W.heap[b]? = w.heap[b]? := fun b hb hne => hgr.block b hb (fun e => hne e.symm)
  have hZ : Kept σ σ s.heap (insR key (.row k (xs.take j ++ List.replicate m i.z) false) s.heap) w W := fun b hb => ⟨⟨Nat.lt_of_lt_of_le hb.1 hgr.size, hb.2.1, fun q o' ho' => by
    rcases hl q o' ho' with ⟨rfl, _⟩ | ⟨_, ho⟩
    · exact hb.2.2 q _ hk
    · exact hb.2.2 q _ ho⟩, hblk b hb.1 (hb.2.2 key _ hk)⟩
  have hst : ∀ q, Stays σ σ s.heap (insR key (.row k (xs.take j ++ List.replicate m i.z) false) s.heap) q := fun q o' ho' => by
    rcases hl q o' ho' with ⟨rfl, rfl⟩ | ⟨_, ho⟩
    · exact ⟨_, hk, rfl, hlen.symm, rfl, rfl⟩
    · exact ⟨o', ho, rfl, rfl, rfl, rfl⟩
  have hfp0 : ∀ b ∈ fp σ key (.row k (xs.take j ++ List.replicate m i.z) false), b ∈ fp σ key (.row k xs dd) := by
    intro b hb
    have hb : b ∈ (σ.g key).toList ++ [] := hb
    rw [List.append_nil] at hb
    exact List.mem_append_left _ hb
  refine hK _ _ (h w0 Ok σ _ _ Q' hM ?_ hQ)
  refine hS.step rfl (hS.below.grown hgr (fun b hb => hro.fresh b (fp_out hb))) hZ (fun r av hr => ⟨av, hr, .inl ⟨rfl, fun q _ => hst q⟩⟩) (fun q o' ho' => ?_) (fun p o1 q u hp hq hpq b hb hb' => ?_)
  · rcases hl q o' ho' with ⟨rfl, rfl⟩ | ⟨hq, ho⟩
    · refine ⟨⟨ds.take (j * k) ++ (List.replicate m (i.z.map zval)).flatten, ?_, hkp, ?_⟩, fun b hb => hro.fresh b (hfp0 b hb), ?_⟩
      · show Row W (slv (σ.g q) (xs.take j ++ List.replicate m i.z).length (σ.cap q)) k (xs.take j ++ List.replicate m i.z).length _ (σ.g q)
        rw [hlen]; exact hR
      · show rdR k _ W _ (xs.take j ++ List.replicate m i.z)
        refine rdR.append (((hrd.take j (by omega)).step hZ)) ?_
        have := (rep_own hz.2 T.hk W m).rd
        rw [← hki] at this
        exact this.mono (fun b hb _ => by cases hb)
      · show ((σ.g q).toList ++ []).Nodup
        rw [List.append_nil]
        cases σ.g q <;> simp
    · refine RowOK.keep hS.ok1 hS.rows hS.disj ho hZ (fun q' _ => hst q') rfl rfl rfl (fun b hb => hblk b (fp_lt hS ho b (fp_out hb)) (fun e => ?_))
      exact hS.disj key _ q o' hk ho (fun e => hq e.symm) b (fp_out e) (fp_out hb)
  · have hp2 : ∃ o2, look p s.heap = some o2 ∧ b ∈ fp σ p o2 := by
      rcases hl p o1 hp with ⟨rfl, rfl⟩ | ⟨_, ho⟩
      · exact ⟨_, hk, hfp0 b hb⟩
      · exact ⟨_, ho, hb⟩
    have hq2 : ∃ o2, look q s.heap = some o2 ∧ b ∈ fp σ q o2 := by
      rcases hl q u hq with ⟨rfl, rfl⟩ | ⟨_, ho⟩
      · exact ⟨_, hk, hfp0 b hb'⟩
      · exact ⟨_, ho, hb'⟩
    obtain ⟨o2, ho2, hb2⟩ := hp2
    obtain ⟨u2, hu2, hb3⟩ := hq2
    exact hS.disj p o2 q u2 ho2 hu2 hpq b hb2 hb3
end
end Go.Proofs.YtacbkjmkjpjhoaaGreat
namespace Go.Proofs.YtacbkjmkjpjhoaaGreat
open Go.RowKit
section
variable {P : Program} {cfg : Cfg} {w0 : W0} {w w' : World} {Ok : Nat → Prop} {N : Nat} {σ σ' : Asg} {s s' : St} {a : Act} {M : Nat → Prop}
theorem relArgs.split {A : Nat → Prop} : ∀ {pre : List (List D)} {ds : List (List D)} {vs : List Value}, relArgs A w (pre ++ ds) vs → ∃ vs1 vs2, vs = vs1 ++ vs2 ∧ relArgs A w pre vs1 ∧ relArgs A w ds vs2
  | [], ds, vs, h => ⟨[], vs, rfl, rfl, h⟩
  | d :: pre, ds, vs, ⟨v, us, e, h1, h2⟩ => by
    obtain ⟨us1, us2, e2, h3, h4⟩ := relArgs.split h2
    subst e2; subst e
    exact ⟨v :: us1, us2, rfl, ⟨v, us1, rfl, h1, h3⟩, h4⟩
theorem relArgs.join {A : Nat → Prop} : ∀ {pre : List (List D)} {ds : List (List D)} {vs1 vs2 : List Value}, relArgs A w pre vs1 → relArgs A w ds vs2 → relArgs A w (pre ++ ds) (vs1 ++ vs2)
  | [], ds, vs1, vs2, h, k => by rw [show vs1 = [] from h]; exact k
  | d :: pre, ds, vs1, vs2, ⟨v, us, e, h1, h2⟩, k => by
    subst e
    exact ⟨v, us ++ vs2, rfl, h1, relArgs.join h2 k⟩
theorem Bel.nil (h : Bel ⟨w, fun b => (none : Option Nat) = some b⟩ w') : Below w.heap.size w w' :=
  ⟨h.os, h.tape, h.output, h.size, fun i hi => h.block i hi (fun e => nomatch e)⟩
theorem AOw.nil {g : FuncId} {pre post : List (List D)} {k : Nat} {Q : List Res → Prop} (h : AOw P g pre k [] post Q) (hk : 0 < k) : AFn P g (pre ++ [.raw (.slice none 0 0)] :: post) Q := by
  refine ⟨h.call, fun A w vs hA hr => ?_⟩
  obtain ⟨vs1, vs2, e, h1, v, us, e2, h2, h3⟩ := relArgs.split hr
  subst e2; subst e
  obtain ⟨rfl, _⟩ := rdV_raw.1 (show rdV A w v (.raw (.slice none 0 0)) from h2)
  refine (h.fn A w vs1 us none 0 [] hA h1 h3 ⟨(Nat.zero_mul k).symm, .inl ⟨rfl, rfl, rfl⟩⟩ hk (by first | exact ⟨0, hk, rfl⟩ | exact ⟨0, hk, trivial⟩ | exact ⟨0, hk, by simp [rdL]⟩) (fun b e => nomatch e)).mono ?_
  rintro e w' ⟨v, rs, rfl, hQ, hb, ho⟩
  have e : (W0.mine ⟨w, fun b => (none : Option Nat) = some b⟩) = fun b => w.heap.size ≤ b := by funext b; simp [W0.mine]
  rw [e] at ho
  exact ⟨v, rs, rfl, hQ, hb.nil, ho⟩
theorem n_callR (C : CfgOK P cfg) (h : Sim w0 Ok N σ s a w) {o : Oper} {f : Operand} {args : Array Operand} {ts : Array TypeId} {g : FuncId} (ho : o.op = .call ⟨.value f, args, ts⟩) (hf : ((opv s.regs f).bind avD).bind fnId = some g)
    {ds : List (List D)} (hd : relArgs (Zn σ s.heap w) w ds (args.toList.map a.eval)) {Q0 : List Res → Prop} (hfn : AFn P g ds Q0)
    {K : Act → World → Prop} {Q : Exit → Act → World → Prop} {key : Nat} (hfr : ∀ rs, Q0 rs → ∀ q ob, look q (resACs key rs).2 = some ob → Free s q)
    (hK : ∀ rs, Q0 rs → ∀ v w' σ', relAV σ' ((resACs key rs).2 ++ s.heap) w' (outAV (resACs key rs).1) v → Sim w0 Ok N σ' ⟨s.regs, (resACs key rs).2 ++ s.heap⟩ a w' → K (a.put o.dst v) w') : o.wp P a w K Q := by
  have hfv : a.eval f = .func (.func g) #[] #[] := fnId_rel h hf
  have hrun : (execOp a.eval o).run P w = .ok (.enter g (args.map a.eval)) w := by
    unfold execOp
    rw [ho]
    simp [resolve, Deferred.ofValue, hfv, invoke, hfn.call]
  obtain ⟨A, hA, hAa, hAz⟩ : ∃ A : Nat → Prop, (∀ b, A b → b < w.heap.size) ∧ relArgs A w ds (args.toList.map a.eval) ∧ ((∃ rs, Q0 rs ∧ rs.all Res.scalar = false) → ∀ b, A b → Zn σ s.heap w b) := by
    exact ⟨Zn σ s.heap w, fun _ h => h.1, hd, fun _ b hb => hb⟩
  have hcall := hfn.fn A w (args.toList.map a.eval) hA hAa
  unfold Oper.wp
  rw [hrun, Oper.upon_enter]
  have e : (args.toList.map a.eval).toArray = args.map a.eval := by rw [← Array.toList_map, Array.toArray_toList]
  rw [← e]
  refine hcall.mono ?_
  rintro e w' ⟨v, rs, rfl, hQ, hw, us, G, X, rfl, hG1, hG2, hrel⟩
  obtain ⟨σ', k0, k1, k2, k3, k4⟩ := outs_asg key σ hrel hG1
  have hgn : ∀ q u, look q (resACs key rs).2 = some u → ∀ b, σ'.g q = some b → w.heap.size ≤ b := fun q u hq b hb => hG2 b ((k2 q u hq).2.2.1 b (fp_out hb))
  have hZ1 : (∀ b, A b → Zn σ s.heap w b) → ∀ b, ((A b ∨ w.heap.size ≤ b) ∧ b ∉ X) → b < w'.heap.size → Zn σ' ((resACs key rs).2 ++ s.heap) w' b := by
    intro hAz b hb hlt
    have hz := Kept.grown hw h hAz b hb.1 hlt
    refine ⟨hlt, by rw [k0]; exact hz.2.1, fun q u hq e => ?_⟩
    rw [look_append] at hq
    cases hn : look q (resACs key rs).2 with
    | some o' => exact hb.2 ((k2 q o' hn).2.2.2 b e)
    | none =>
      rw [hn] at hq
      rw [(k1 q hn).1] at e
      exact hz.2.2 q u hq e
  refine hK rs hQ _ w' σ' (out_rel ?_) ?_
  · by_cases hsc : rs.all Res.scalar = true
    · exact k4.relS hsc
    · exact k4.rel (hZ1 (hAz ⟨rs, hQ, by simpa using hsc⟩))
  · refine h.news k0 hw (hfr rs hQ) k1 (fun q o' hq => ?_) (fun q o' hq => ?_) k3
    · obtain ⟨⟨dd, k, xs, d, b1, b2, b3, b4⟩, _⟩ := k2 q o' hq
      subst b1
      refine ⟨dd, b2, b3, ?_⟩
      show if d = true then ownR k w' dd xs (σ'.F q) else rdR k (Zn σ' ((resACs key rs).2 ++ s.heap) w') w' dd xs
      cases d with
      | true => rw [if_pos rfl]; exact b4
      | false =>
        rw [if_neg (by decide)]
        have b4' : rdR k (fun b => (A b ∨ w.heap.size ≤ b) ∧ b ∉ X) w' dd xs := b4
        have hsc : rs.all Res.scalar = false := by
          have key : ∀ {rs : List Res} {key : Nat} {q : Nat}, look q (resACs key rs).2 = some (.row k xs false) → rs.all Res.scalar = false := by
            intro rs
            induction rs with
            | nil => intro key q hq; cases hq
            | cons r rs ih =>
              intro key q hq
              cases r with
              | val d => rw [List.all_cons, ih (by simpa [resACs, resAC] using hq), Bool.and_false]
              | own kk ys d =>
                simp only [resACs, resAC, List.singleton_append, look] at hq
                split at hq
                · cases hq; rfl
                · rw [List.all_cons, ih hq, Bool.and_false]
          exact key hq
        exact b4'.mono (fun b hb hlt => hZ1 (hAz ⟨rs, hQ, hsc⟩) b hb hlt)
    · obtain ⟨_, b5, b6, _⟩ := k2 q o' hq
      exact ⟨fun b hb => hG2 b (b6 b hb), b5⟩
theorem ROps.callNilP (C : CfgOK P cfg) {ops : Array Oper} {o : Oper} {l : List Oper} {Q : St → Prop} {d : Nat} {f : Operand} {args : Array Operand} {ts : Array TypeId} {g : FuncId} (hb : awanted ops s.regs o = some true) (hdN : d < cfg.N)
    (ho : o.op = .call ⟨.value f, args, ts⟩) (hod : o.dst = some d) (hf : ((opv s.regs f).bind avD).bind fnId = some g)
    {xs : List Operand} {tx : List TypeId} {pre : List (List D)} {ys : List Operand} {ty : List TypeId} {post : List (List D)} (ha : args.toList = xs ++ .const (.slice none 0 0) :: ys) (hpre : aargs cfg (fun k => look k s.heap) s.regs xs tx = some pre) (hr : opRefs s.regs xs = []) (hpost : aargs cfg (fun k => look k s.heap) s.regs ys ty = some post) (hr2 : opRefs s.regs ys = [])
    {rs : List Res} (hfn : AFn P g (pre ++ [.raw (.slice none 0 0)] :: post) (· = rs)) (hfr : (resACs d rs).2.all (fun p => fresh s p.1) = true)
    (h : ROps P cfg M ops l Q (s.got d rs)) : ROps P cfg M ops (o :: l) Q s := by
  intro w0 Ok σ a w Q' hM hS hQ
  refine wpList_step (fun K hK => ?_)
  rw [awanted_spec hS hb]
  simp only [if_true]
  have hrel : relArgs (Zn σ s.heap w) w (pre ++ [.raw (.slice none 0 0)] :: post) (args.toList.map a.eval) := by
    rw [ha, List.map_append]
    exact relArgs.join ((aargs_rel C hS hpre).2 hr) ⟨_, _, rfl, rdV_raw.2 ⟨rfl, rfl⟩, (aargs_rel C hS hpost).2 hr2⟩
  refine n_callR C hS (key := d) ho hf hrel hfn (fun rs' e => e ▸ fun q ob hq => fresh_free (List.all_eq_true.1 hfr _ (look_all hq))) (fun rs' e v w' σ' hv hS' => ?_)
  subst e
  rw [hod]
  have hsub : ∀ k o', look k (insAll (resACs d rs').2 s.heap) = some o' → look k ((resACs d rs').2 ++ s.heap) = some o' := fun k o' ho' => by rw [look_insAll] at ho'; exact ho'
  exact hK _ _ (h w0 Ok σ' _ _ Q' hM (Sim.ins (hS'.forget (fun _ _ h => h) hsub) hdN (hv.sub hsub)) hQ)
end
noncomputable def atOwn (A : List (List D)) (k : Nat) (X : List (List D)) (B : List (List D)) (R : List Res) (a : List (List D)) (k' : Nat) (x : List (List D)) (b : List (List D)) : Option (List Res × Option (List (List D))) := by
  classical
  exact if a = A ∧ k' = k ∧ x = X ∧ b = B then some (R, Option.none) else Option.none
theorem atOwn_eq (A : List (List D)) (k : Nat) (X : List (List D)) (B : List (List D)) (R : List Res) : atOwn A k X B R A k X B = some (R, Option.none) := by
  unfold atOwn; rw [if_pos ⟨rfl, rfl, rfl, rfl⟩]
theorem atOwn_some {A : List (List D)} {k : Nat} {X : List (List D)} {B : List (List D)} {R : List Res} {a : List (List D)} {k' : Nat} {x b : List (List D)} {r : List Res × Option (List (List D))} (h : atOwn A k X B R a k' x b = some r) : a = A ∧ k' = k ∧ x = X ∧ b = B ∧ r = (R, Option.none) := by
  unfold atOwn at h
  split at h
  · rename_i h1
    exact ⟨h1.1, h1.2.1, h1.2.2.1, h1.2.2.2, (Option.some.inj h).symm⟩
  · exact nomatch h
noncomputable def Tab.own' {P : Program} (T : Tab P) (g : FuncId) (n : Nat) {A : List (List D)} {k : Nat} {X B : List (List D)} {R : List Res} (h : AOw P g A k X B (· = R)) : Tab P :=
  T.own g ⟨false, n, atOwn A k X B R⟩ (fun pre k' xs post r _ e => by
    obtain ⟨rfl, rfl, rfl, rfl, rfl⟩ := atOwn_some e
    exact h.toEf)
end Go.Proofs.YtacbkjmkjpjhoaaGreat
namespace Go.Proofs.YtacbkjmkjpjhoaaGreat
def fIdx {α : Type} (p : α → Bool) : List α → Option Nat
  | [] => none
  | x :: xs => if p x then some 0 else (fIdx p xs).map (· + 1)
def idxI (o : Option Nat) : Int := match o with | some i => i | none => -1
theorem fIdx_none {α : Type} {p : α → Bool} : ∀ {xs : List α}, fIdx p xs = none ↔ ∀ x ∈ xs, p x = false
  | [] => by simp [fIdx]
  | x :: xs => by
    unfold fIdx
    by_cases h : p x = true
    · simp [h]
    · have h' : p x = false := by simpa using h
      simp only [h, Bool.false_eq_true, if_false, Option.map_eq_none_iff, fIdx_none (xs := xs)]
      simp [h']
theorem fIdx_some {α : Type} {p : α → Bool} : ∀ {xs : List α} {i : Nat}, fIdx p xs = some i → ∃ h : i < xs.length, p xs[i] = true ∧ ∀ x ∈ xs.take i, p x = false
  | x :: xs, i, h => by
    unfold fIdx at h
    by_cases hx : p x = true
    · rw [if_pos hx] at h; cases h
      exact ⟨by simp, hx, by simp⟩
    · rw [if_neg hx] at h
      obtain ⟨j, hj, rfl⟩ := map_some h
      obtain ⟨h1, h2, h3⟩ := fIdx_some hj
      refine ⟨by simpa using h1, h2, fun y hy => ?_⟩
      rw [List.take_succ_cons, List.mem_cons] at hy
      rcases hy with rfl | hy
      · simpa using hx
      · exact h3 y hy
theorem fIdx_at {α : Type} {p : α → Bool} : ∀ {xs : List α} {i : Nat} (h : i < xs.length), p xs[i] = true → (∀ x ∈ xs.take i, p x = false) → fIdx p xs = some i
  | x :: xs, 0, _, h1, _ => by
    have h1 : p x = true := h1
    unfold fIdx; rw [if_pos h1]
  | x :: xs, i + 1, h, h1, h2 => by
    unfold fIdx
    have hx : p x = false := h2 x (by simp)
    rw [if_neg (by simp [hx]), fIdx_at (xs := xs) (i := i) (by simpa using h) h1 (fun y hy => h2 y (by simp [hy]))]
    rfl
def keepF {α : Type} (p : α → Bool) (xs : List α) : List α := xs.filter fun x => !p x
end Go.Proofs.YtacbkjmkjpjhoaaGreat

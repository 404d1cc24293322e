/- Lemmas (7). -/
import Derived.Test.YtfhmonacgmakbaaGreatZC0
import Derived.Test.YtfhmonacgmakbaaGreatZC1
import Derived.Test.YtfhmonacgmakbaaGreatZC5
import Derived.Test.YtfhmonacgmakbaaGreatZC6
set_option linter.unusedSimpArgs false
set_option linter.unusedVariables false
namespace Go.Proofs.YtfhmonacgmakbaaGreat
open Go.RowKit
theorem telT_none (s : St) (u : List Nat) : telT s u Option.none = Option.none := rfl
theorem Zg : type_of% (And.intro (And.intro (And.intro (And.intro (And.intro (And.intro (And.intro @arun.eq_1 (And.intro @arun.eq_2 @astep.eq_def)) (And.intro (And.intro @anew.eq_def @amut.eq_def) (And.intro @isMut.eq_def @awanted.eq_def))) (And.intro (And.intro @avG.eq_def (And.intro @Bool.true_beq @Bool.false_beq)) (And.intro (And.intro @beq_true @beq_false) (And.intro @dstOK.eq_def @cfg.eq_def)))) (And.intro (And.intro (And.intro @opv.eq_def (And.intro @noJunk.eq_def @constAV.eq_def)) (And.intro (And.intro @look_eq @lookB.eq_1) (And.intro @lookB.eq_2 @insR_eq))) (And.intro (And.intro @insB.eq_1 (And.intro @insB.eq_2 @cond_true.{1})) (And.intro (And.intro @cond_false.{1} @insAll.eq_def) (And.intro @List.foldr_cons.{0,0} @List.foldr_nil.{0,0}))))) (And.intro (And.intro (And.intro (And.intro @Option.bind_some.{0,0} (And.intro @Option.map_some.{0,0} @Option.bind_none.{0,0})) (And.intro (And.intro @Option.map_none.{0,0} @Option.getD_some.{0}) (And.intro @Option.getD_none.{0} @Bool.false_eq_true))) (And.intro (And.intro @decide_true (And.intro @decide_false @slT.eq_def)) (And.intro (And.intro @tyT.eq_def (And.intro @tyT2.eq_def (And.intro @tyT3.eq_def @slT2.eq_def))) (And.intro @fsT.eq_def @avD.eq_def)))) (And.intro (And.intro (And.intro @avI.eq_def (And.intro @avB.eq_def @dval.eq_def)) (And.intro (And.intro @un_int @un_bool) (And.intro @un_raw @un_sl))) (And.intro (And.intro (And.intro @un_tag @avun_val) (And.intro @avun_nil @avun_own)) (And.intro (And.intro @avun_view @abin.eq_def) (And.intro @aun.eq_def @alen.eq_def)))))) (And.intro (And.intro (And.intro (And.intro (And.intro @aindex.eq_def (And.intro @aslice.eq_def @afield.eq_def)) (And.intro (And.intro @acells.eq_def @aload.eq_def) (And.intro @avCells.eq_def @zAC.eq_def))) (And.intro (And.intro @afill.eq_1 (And.intro @afill.eq_2 @aparts.eq_1)) (And.intro (And.intro @aparts.eq_2 @mkObj.eq_def) (And.intro @rowsD.eq_1 @rowsD.eq_2)))) (And.intro (And.intro (And.intro @cellsD.eq_1 (And.intro @cellsD.eq_2 @cellsD.eq_3)) (And.intro (And.intro @cellD_vsl @cellD_vtag) (And.intro @cellD_vint @cellD_vbool))) (And.intro (And.intro @cellD_vraw (And.intro @cellD_nilsl @cellD_own)) (And.intro (And.intro @cellD_view @cellD_junk) (And.intro @fresh.eq_def @abase.eq_def))))) (And.intro (And.intro (And.intro (And.intro @aelems.eq_def (And.intro @absorbKey.eq_def @absorbs.eq_1)) (And.intro (And.intro @absorbs.eq_2 @absorbs.eq_3) (And.intro @absorb.eq_def @absorbRows.eq_1))) (And.intro (And.intro @absorbRows.eq_2 (And.intro @drop_eq @dropB.eq_1)) (And.intro (And.intro @dropB.eq_2 @killR.eq_def) (And.intro @AC.kill.eq_def @AV.kill.eq_def)))) (And.intro (And.intro (And.intro @AV.refs.eq_def (And.intro @AC.refs.eq_def @Obj.refs.eq_def)) (And.intro (And.intro @List.map_cons.{0,0} @List.map_nil.{0,0}) (And.intro @List.all_cons.{0} @List.all_nil.{0}))) (And.intro (And.intro (And.intro @List.flatMap_cons.{0,0} @List.flatMap_nil.{0,0}) (And.intro @List.contains_nil.{0} @List.contains_cons.{0})) (And.intro (And.intro @List.append_nil.{0} @List.nil_append.{0}) (And.intro @List.cons_append.{0} @Bool.and_true))))))) (And.intro (And.intro (And.intro (And.intro (And.intro (And.intro @Bool.true_and (And.intro @Bool.not_true @Bool.not_false)) (And.intro (And.intro @Bool.and_self @Option.isNone_none.{0}) (And.intro @Option.isNone_some.{0} @List.length_cons.{0}))) (And.intro (And.intro @List.length_nil.{0} (And.intro @List.toList_toArray.{0} @List.getElem?_toArray.{0})) (And.intro (And.intro @splice.eq_def @List.take_succ_cons.{0}) (And.intro @List.drop_succ_cons.{0} @List.take_zero.{0})))) (And.intro (And.intro (And.intro @List.drop_zero.{0} (And.intro @List.take_nil.{0} @List.drop_nil.{0})) (And.intro (And.intro @Nat.zero_add @Nat.add_zero) (And.intro @and_self @true_and))) (And.intro (And.intro @and_true (And.intro @List.getElem?_cons_zero.{0} @List.getElem?_cons_succ.{0})) (And.intro (And.intro @List.getElem?_nil.{0} @beq_self_eq_true.{0}) (And.intro @Bool.or_false @Bool.false_or))))) (And.intro (And.intro (And.intro (And.intro @Bool.or_true (And.intro @Bool.true_or @putR.eq_def)) (And.intro (And.intro @bne_self_eq_false.{0} @Bool.and_false) (And.intro @Bool.false_and @id_eq.{1}))) (And.intro (And.intro @Obj.k.eq_def (And.intro @Obj.len.eq_def @Obj.deep.eq_def)) (And.intro (And.intro @List.getElem?_cons.{0} @List.set_cons_zero.{0}) (And.intro @List.set_cons_succ.{0} @List.length_set.{0})))) (And.intro (And.intro (And.intro @aopsT.eq_1 (And.intro @aopsT.eq_2 @astepT.eq_def)) (And.intro (And.intro @isCall.eq_def @acallT.eq_def) (And.intro @arg1.eq_def @argV_raw))) (And.intro (And.intro (And.intro @argV_nil @argV_own) (And.intro @argV_view @argV_agg)) (And.intro (And.intro @argV_sl @argV_int) (And.intro @argV_bool @argV_tag)))))) (And.intro (And.intro (And.intro (And.intro (And.intro (And.intro (And.intro @isOwn.eq_def @isPin.eq_def) (And.intro (And.intro @callP.eq_def @pinE_pin) (And.intro @putP_some @Tab.pin.eq_def))) (And.intro @callE.eq_def @ownKey.eq_def)) (And.intro (And.intro @rowE_row @putE_some) (And.intro @putE_none @Tab.own.eq_def))) (And.intro (And.intro @Tab.at'.eq_def (And.intro @atArgs_eq @Option.isSome_some.{0})) (And.intro (And.intro @Option.isSome_none.{0} @gotT_some) (And.intro @gotF_some @gotF_none)))) (And.intro (And.intro (And.intro @callRefs_call (And.intro @St.frzs.eq_1 @St.frzs.eq_2)) (And.intro (And.intro @St.frz.eq_def @AC.frz.eq_def) (And.intro @AV.frz.eq_def @Obj.frz.eq_def))) (And.intro (And.intro (And.intro @frzR.eq_1 @frzR.eq_2) (And.intro @frzH.eq_1 @frzH.eq_2)) (And.intro (And.intro @telT_some @List.size_toArray.{0}) (And.intro @aargs.eq_1 @aargs.eq_2))))) (And.intro (And.intro (And.intro (And.intro @aargs.eq_3 (And.intro @argAV.eq_def @argCells.eq_1)) (And.intro (And.intro @argCells.eq_2 @argCells.eq_3) (And.intro @argCell.eq_def @fnId.eq_def))) (And.intro (And.intro @opRefs_nil (And.intro @opRefs_cons @St.got.eq_def)) (And.intro (And.intro @resACs.eq_1 @resACs.eq_2) (And.intro @resAC.eq_def @outAV.eq_def)))) (And.intro (And.intro (And.intro @Res.scalar.eq_def (And.intro @isSl.eq_def @Tab.add.eq_def)) (And.intro (And.intro @Tab.none.eq_def @tab1.eq_def) (And.intro @tab2.eq_def @tab3.eq_def))) (And.intro (And.intro (And.intro @codL_d @codLL_d) (And.intro @codI_d @codB_d)) (And.intro (And.intro @codCts_d @List.isEmpty_nil.{0}) (And.intro @List.isEmpty_cons.{0} @List.append_eq.{0})))))))) := (And.intro (And.intro (And.intro (And.intro (And.intro (And.intro (And.intro @arun.eq_1 (And.intro @arun.eq_2 @astep.eq_def)) (And.intro (And.intro @anew.eq_def @amut.eq_def) (And.intro @isMut.eq_def @awanted.eq_def))) (And.intro (And.intro @avG.eq_def (And.intro @Bool.true_beq @Bool.false_beq)) (And.intro (And.intro @beq_true @beq_false) (And.intro @dstOK.eq_def @cfg.eq_def)))) (And.intro (And.intro (And.intro @opv.eq_def (And.intro @noJunk.eq_def @constAV.eq_def)) (And.intro (And.intro @look_eq @lookB.eq_1) (And.intro @lookB.eq_2 @insR_eq))) (And.intro (And.intro @insB.eq_1 (And.intro @insB.eq_2 @cond_true.{1})) (And.intro (And.intro @cond_false.{1} @insAll.eq_def) (And.intro @List.foldr_cons.{0,0} @List.foldr_nil.{0,0}))))) (And.intro (And.intro (And.intro (And.intro @Option.bind_some.{0,0} (And.intro @Option.map_some.{0,0} @Option.bind_none.{0,0})) (And.intro (And.intro @Option.map_none.{0,0} @Option.getD_some.{0}) (And.intro @Option.getD_none.{0} @Bool.false_eq_true))) (And.intro (And.intro @decide_true (And.intro @decide_false @slT.eq_def)) (And.intro (And.intro @tyT.eq_def (And.intro @tyT2.eq_def (And.intro @tyT3.eq_def @slT2.eq_def))) (And.intro @fsT.eq_def @avD.eq_def)))) (And.intro (And.intro (And.intro @avI.eq_def (And.intro @avB.eq_def @dval.eq_def)) (And.intro (And.intro @un_int @un_bool) (And.intro @un_raw @un_sl))) (And.intro (And.intro (And.intro @un_tag @avun_val) (And.intro @avun_nil @avun_own)) (And.intro (And.intro @avun_view @abin.eq_def) (And.intro @aun.eq_def @alen.eq_def)))))) (And.intro (And.intro (And.intro (And.intro (And.intro @aindex.eq_def (And.intro @aslice.eq_def @afield.eq_def)) (And.intro (And.intro @acells.eq_def @aload.eq_def) (And.intro @avCells.eq_def @zAC.eq_def))) (And.intro (And.intro @afill.eq_1 (And.intro @afill.eq_2 @aparts.eq_1)) (And.intro (And.intro @aparts.eq_2 @mkObj.eq_def) (And.intro @rowsD.eq_1 @rowsD.eq_2)))) (And.intro (And.intro (And.intro @cellsD.eq_1 (And.intro @cellsD.eq_2 @cellsD.eq_3)) (And.intro (And.intro @cellD_vsl @cellD_vtag) (And.intro @cellD_vint @cellD_vbool))) (And.intro (And.intro @cellD_vraw (And.intro @cellD_nilsl @cellD_own)) (And.intro (And.intro @cellD_view @cellD_junk) (And.intro @fresh.eq_def @abase.eq_def))))) (And.intro (And.intro (And.intro (And.intro @aelems.eq_def (And.intro @absorbKey.eq_def @absorbs.eq_1)) (And.intro (And.intro @absorbs.eq_2 @absorbs.eq_3) (And.intro @absorb.eq_def @absorbRows.eq_1))) (And.intro (And.intro @absorbRows.eq_2 (And.intro @drop_eq @dropB.eq_1)) (And.intro (And.intro @dropB.eq_2 @killR.eq_def) (And.intro @AC.kill.eq_def @AV.kill.eq_def)))) (And.intro (And.intro (And.intro @AV.refs.eq_def (And.intro @AC.refs.eq_def @Obj.refs.eq_def)) (And.intro (And.intro @List.map_cons.{0,0} @List.map_nil.{0,0}) (And.intro @List.all_cons.{0} @List.all_nil.{0}))) (And.intro (And.intro (And.intro @List.flatMap_cons.{0,0} @List.flatMap_nil.{0,0}) (And.intro @List.contains_nil.{0} @List.contains_cons.{0})) (And.intro (And.intro @List.append_nil.{0} @List.nil_append.{0}) (And.intro @List.cons_append.{0} @Bool.and_true))))))) (And.intro (And.intro (And.intro (And.intro (And.intro (And.intro @Bool.true_and (And.intro @Bool.not_true @Bool.not_false)) (And.intro (And.intro @Bool.and_self @Option.isNone_none.{0}) (And.intro @Option.isNone_some.{0} @List.length_cons.{0}))) (And.intro (And.intro @List.length_nil.{0} (And.intro @List.toList_toArray.{0} @List.getElem?_toArray.{0})) (And.intro (And.intro @splice.eq_def @List.take_succ_cons.{0}) (And.intro @List.drop_succ_cons.{0} @List.take_zero.{0})))) (And.intro (And.intro (And.intro @List.drop_zero.{0} (And.intro @List.take_nil.{0} @List.drop_nil.{0})) (And.intro (And.intro @Nat.zero_add @Nat.add_zero) (And.intro @and_self @true_and))) (And.intro (And.intro @and_true (And.intro @List.getElem?_cons_zero.{0} @List.getElem?_cons_succ.{0})) (And.intro (And.intro @List.getElem?_nil.{0} @beq_self_eq_true.{0}) (And.intro @Bool.or_false @Bool.false_or))))) (And.intro (And.intro (And.intro (And.intro @Bool.or_true (And.intro @Bool.true_or @putR.eq_def)) (And.intro (And.intro @bne_self_eq_false.{0} @Bool.and_false) (And.intro @Bool.false_and @id_eq.{1}))) (And.intro (And.intro @Obj.k.eq_def (And.intro @Obj.len.eq_def @Obj.deep.eq_def)) (And.intro (And.intro @List.getElem?_cons.{0} @List.set_cons_zero.{0}) (And.intro @List.set_cons_succ.{0} @List.length_set.{0})))) (And.intro (And.intro (And.intro @aopsT.eq_1 (And.intro @aopsT.eq_2 @astepT.eq_def)) (And.intro (And.intro @isCall.eq_def @acallT.eq_def) (And.intro @arg1.eq_def @argV_raw))) (And.intro (And.intro (And.intro @argV_nil @argV_own) (And.intro @argV_view @argV_agg)) (And.intro (And.intro @argV_sl @argV_int) (And.intro @argV_bool @argV_tag)))))) (And.intro (And.intro (And.intro (And.intro (And.intro (And.intro (And.intro @isOwn.eq_def @isPin.eq_def) (And.intro (And.intro @callP.eq_def @pinE_pin) (And.intro @putP_some @Tab.pin.eq_def))) (And.intro @callE.eq_def @ownKey.eq_def)) (And.intro (And.intro @rowE_row @putE_some) (And.intro @putE_none @Tab.own.eq_def))) (And.intro (And.intro @Tab.at'.eq_def (And.intro @atArgs_eq @Option.isSome_some.{0})) (And.intro (And.intro @Option.isSome_none.{0} @gotT_some) (And.intro @gotF_some @gotF_none)))) (And.intro (And.intro (And.intro @callRefs_call (And.intro @St.frzs.eq_1 @St.frzs.eq_2)) (And.intro (And.intro @St.frz.eq_def @AC.frz.eq_def) (And.intro @AV.frz.eq_def @Obj.frz.eq_def))) (And.intro (And.intro (And.intro @frzR.eq_1 @frzR.eq_2) (And.intro @frzH.eq_1 @frzH.eq_2)) (And.intro (And.intro @telT_some @List.size_toArray.{0}) (And.intro @aargs.eq_1 @aargs.eq_2))))) (And.intro (And.intro (And.intro (And.intro @aargs.eq_3 (And.intro @argAV.eq_def @argCells.eq_1)) (And.intro (And.intro @argCells.eq_2 @argCells.eq_3) (And.intro @argCell.eq_def @fnId.eq_def))) (And.intro (And.intro @opRefs_nil (And.intro @opRefs_cons @St.got.eq_def)) (And.intro (And.intro @resACs.eq_1 @resACs.eq_2) (And.intro @resAC.eq_def @outAV.eq_def)))) (And.intro (And.intro (And.intro @Res.scalar.eq_def (And.intro @isSl.eq_def @Tab.add.eq_def)) (And.intro (And.intro @Tab.none.eq_def @tab1.eq_def) (And.intro @tab2.eq_def @tab3.eq_def))) (And.intro (And.intro (And.intro @codL_d @codLL_d) (And.intro @codI_d @codB_d)) (And.intro (And.intro @codCts_d @List.isEmpty_nil.{0}) (And.intro @List.isEmpty_cons.{0} @List.append_eq.{0}))))))))
theorem Zd : type_of% (And.intro @telT_none (And.intro (And.intro (And.intro (And.intro @dregT_mk (And.intro @drunT.eq_1 @drunT.eq_2)) (And.intro @devalT.eq_def (And.intro @deval.eq_def @St.add.eq_def))) (And.intro (And.intro @opnd_move (And.intro @opnd_assign @opnd_load)) (And.intro (And.intro @opnd_box @opnd_alloc) (And.intro @opnd_unOp @opnd_convert)))) (And.intro (And.intro (And.intro @opnd_field (And.intro @opnd_extract @opnd_index)) (And.intro @opnd_make (And.intro @opnd_bin @opnd_pick))) (And.intro (And.intro @opnd_build (And.intro @opnd_buildSlice @opnd_slice)) (And.intro (And.intro @opnd_call @opnd_bcall) (And.intro @Option.toList_some.{0} @Option.toList_none.{0})))))) := (And.intro @telT_none (And.intro (And.intro (And.intro (And.intro @dregT_mk (And.intro @drunT.eq_1 @drunT.eq_2)) (And.intro @devalT.eq_def (And.intro @deval.eq_def @St.add.eq_def))) (And.intro (And.intro @opnd_move (And.intro @opnd_assign @opnd_load)) (And.intro (And.intro @opnd_box @opnd_alloc) (And.intro @opnd_unOp @opnd_convert)))) (And.intro (And.intro (And.intro @opnd_field (And.intro @opnd_extract @opnd_index)) (And.intro @opnd_make (And.intro @opnd_bin @opnd_pick))) (And.intro (And.intro @opnd_build (And.intro @opnd_buildSlice @opnd_slice)) (And.intro (And.intro @opnd_call @opnd_bcall) (And.intro @Option.toList_some.{0} @Option.toList_none.{0}))))))
theorem Zu : type_of% (And.intro (And.intro @cutR.eq_1 @cutR.eq_2) (And.intro @cond_true.{1} @cond_false.{1})) := (And.intro (And.intro @cutR.eq_1 @cutR.eq_2) (And.intro @cond_true.{1} @cond_false.{1}))
theorem Zz : type_of% (And.intro (And.intro (And.intro @look_eq @lookB.eq_1) (And.intro @lookB.eq_2 (And.intro @cond_true.{1} @cond_false.{1}))) (And.intro (And.intro @List.length_append.{0} (And.intro @List.length_map.{0,0} @List.length_cons.{0})) (And.intro @List.length_nil.{0} (And.intro @Nat.zero_add @List.length_set.{0})))) := (And.intro (And.intro (And.intro @look_eq @lookB.eq_1) (And.intro @lookB.eq_2 (And.intro @cond_true.{1} @cond_false.{1}))) (And.intro (And.intro @List.length_append.{0} (And.intro @List.length_map.{0,0} @List.length_cons.{0})) (And.intro @List.length_nil.{0} (And.intro @Nat.zero_add @List.length_set.{0}))))
theorem Zv : type_of% (And.intro (And.intro @List.map_append.{0,0} (And.intro @List.map_cons.{0,0} @List.map_nil.{0,0})) (And.intro (And.intro @List.append_assoc.{0} @List.cons_append.{0}) (And.intro @List.nil_append.{0} @List.append_nil.{0}))) := (And.intro (And.intro @List.map_append.{0,0} (And.intro @List.map_cons.{0,0} @List.map_nil.{0,0})) (And.intro (And.intro @List.append_assoc.{0} @List.cons_append.{0}) (And.intro @List.nil_append.{0} @List.append_nil.{0})))
theorem Zk : type_of% (And.intro (And.intro (And.intro @Tel.sh.eq_def @List.map_cons.{0,0}) (And.intro @List.map_nil.{0,0} (And.intro @AV.refs.eq_def @AC.refs.eq_def))) (And.intro (And.intro @List.flatMap_cons.{0,0} @List.flatMap_nil.{0,0}) (And.intro @List.append_nil.{0} (And.intro @List.nil_append.{0} @Obj.refs.eq_def)))) := (And.intro (And.intro (And.intro @Tel.sh.eq_def @List.map_cons.{0,0}) (And.intro @List.map_nil.{0,0} (And.intro @AV.refs.eq_def @AC.refs.eq_def))) (And.intro (And.intro @List.flatMap_cons.{0,0} @List.flatMap_nil.{0,0}) (And.intro @List.append_nil.{0} (And.intro @List.nil_append.{0} @Obj.refs.eq_def))))
theorem Ze : type_of% (And.intro (And.intro @aresults.eq_1 @aresults.eq_2) (And.intro @aresults.eq_3 @ares.eq_def)) := (And.intro (And.intro @aresults.eq_1 @aresults.eq_2) (And.intro @aresults.eq_3 @ares.eq_def))
theorem Q1 : type_of% @RunK.seq := @RunK.seq
theorem Q2 : type_of% @RunK.next := @RunK.next
theorem Q3 : type_of% @RunK.skip := @RunK.skip
theorem Q4 : type_of% @RunK.exit := @RunK.exit
theorem Q5 : type_of% @RunK.ret := @RunK.ret
theorem Q6 : type_of% @RunK.label := @RunK.label
theorem Q7 : type_of% @outK.blkN := @outK.blkN
theorem Q8 : type_of% @outK.blkX := @outK.blkX
theorem Q9 : type_of% @outK.seqX := @outK.seqX
theorem Qa : type_of% @outK.seqR := @outK.seqR
theorem Qb : type_of% @outK.blkR := @outK.blkR
theorem Qc : type_of% @RunK.blockS := @RunK.blockS
theorem Qd : type_of% @RunK.blockR := @RunK.blockR
theorem Qe : type_of% @RunK.blockC := @RunK.blockC
theorem Qf : type_of% @RunK.blockB := @RunK.blockB
theorem Qo : type_of% @outK.blkO := @outK.blkO
theorem QT : type_of% @RunK.wT := @RunK.wT
theorem QF : type_of% @RunK.wF := @RunK.wF
theorem QS : type_of% @RunK.wS := @RunK.wS
theorem QC : type_of% @RunK.wC := @RunK.wC
theorem QD : type_of% @RunK.wD := @RunK.wD
theorem QW : type_of% @Work.mk := @Work.mk
theorem QK : type_of% @ChkD.mk := @ChkD.mk
theorem Qn : type_of% @Fits.nil := @Fits.nil
theorem Qr : type_of% @Fits.reg := @Fits.reg
theorem Qj : type_of% @Fits.obj := @Fits.obj
theorem Qw : type_of% @wk.same := @wk.same
end Go.Proofs.YtfhmonacgmakbaaGreat
namespace Go.Proofs.YtfhmonacgmakbaaGreat
def lastBig (t : List Int) : Nat → Nat
  | 0 => 0
  | p + 1 => if t.getD p 0 ≤ 1 then lastBig t p else p + 1
def lastEq (t : List Int) (l : Int) : Nat → Nat
  | 0 => 0
  | q + 1 => if t.getD q 0 = l then q else lastEq t l q
def copyFrom (p q : Nat) : Nat → List Int → List Int
  | 0, t => t
  | k + 1, t => (copyFrom p q k t).set (p + k) ((copyFrom p q k t).getD (p + k - (p - q)) 0)
def nextT (t : List Int) : Option (List Int) :=
  match lastBig t t.length with
  | 0 => none
  | p + 1 => some (copyFrom p (lastEq t (t.getD p 0 - 1) p) (t.length - p) t)
def treesF : Nat → List Int → List (List Int)
  | 0, _ => []
  | f + 1, t => t :: match nextT t with
    | none => []
    | some s => treesF f s
def treesN (n : Nat) : List (List Int) := treesF 120 ((List.range n).map fun (i : Nat) => (i : Int))
def growF : Nat → List Int → Nat → List (List Int)
  | 0, _, _ => []
  | f + 1, t, n => if t.length = n then (if canon t = t then [t] else [])
    else (List.range ((t.getLastD 0 + 1).toNat)).flatMap fun i => growF f (t ++ [t.getLastD 0 + 1 - (i : Nat)]) n
theorem trees_len : [1, 2, 3, 4, 5, 6, 7, 8].map (fun n => (treesN n).length) = [1, 1, 2, 4, 9, 20, 48, 115] := by decide +kernel
theorem grow_trees : ∀ n ∈ [1, 2, 3, 4, 5, 6, 7, 8], growF 9 [0] n = treesN n := by decide +kernel
end Go.Proofs.YtfhmonacgmakbaaGreat
namespace Go.Proofs.YtfhmonacgmakbaaGreat
open Go.RowKit
theorem a_slicesClone (xs : List Int) (h : xs.length ≤ 1000000000) : AFn Tryz.prog 158 [eL xs] (· = [.own 1 (xs.map eI) true]) := afn_L_o (enters_of Tryz.func158 rfl rfl) (fun u w h' => c_slicesClone u xs w h' h)
def stepOk (n : Nat) (t : List Int) : Bool :=
  t.length == n && t.all (fun x => decide (0 ≤ x) && decide (x ≤ 8)) && (match lastBig t n with
    | 0 => true
    | p + 1 => decide (p < n) && (let q := lastEq t (t.getD p 0 - 1) p; decide (q < p) && t.getD q 0 == t.getD p 0 - 1))
theorem step_all : ∀ n ∈ [1, 2, 3, 4, 5, 6, 7, 8], (treesN n).all (stepOk n) = true := by decide +kernel
theorem copyFrom_len (p q : Nat) (t : List Int) : ∀ k, (copyFrom p q k t).length = t.length
  | 0 => rfl
  | k + 1 => by unfold copyFrom; rw [List.length_set, copyFrom_len p q t k]
set_option maxHeartbeats 4000000 in
theorem a_treesOf (n : Nat) (hn : n ∈ [1, 2, 3, 4, 5, 6, 7, 8]) : AFn Tryz.prog 114 [eI n] (· = [.own 1 ((treesN n).map eL) true]) := by
  have hn8 : 1 ≤ n ∧ n ≤ 8 := by simp at hn; omega
  have hlen : (treesN n).length ≤ 115 := by
    have := trees_len
    simp at hn
    rcases hn with rfl | rfl | rfl | rfl | rfl | rfl | rfl | rfl <;> simp at this <;> omega
  have hok := List.all_eq_true.1 (step_all n hn)
  refine AFn.of_runs (cfg_ok 72) Tryz.func114 rfl rfl rfl (by simp only [List.length_cons, List.length_nil]; decide) ?_
  have hres : Tryz.f114.results.toList = [.tmp 2] := rfl
  have hrts : Tryz.f114.resultTypes.toList = [29] := rfl
  simp only [argRegs, argAV1, eL, eI, eLL, eB, Nat.zero_add, Nat.reduceAdd]
  intro M
  refine RunK.of ?_
  repeat' (first | with_reducible (first | refine Q1 ?_ | refine Q2 ?_ | refine Q3 ?_ | refine Q4 ?_ | refine Q5 ?_ | refine Q6 ?_ | refine Q7 ?_ | refine Q8 ?_ | refine Q9 ?_ | refine Qa ?_ | refine Qb ?_ | refine Qc ?_ | refine Qd ?_ | refine Qe ?_ | refine Qf ?_) | ((with_reducible refine Qo ?_ ?_); focus rfl) | ((with_reducible first | refine QT 13 (l := ?_) ?_ ?_ | refine QF 13 (l := ?_) ?_ ?_); rotate_left 1; focus (simp only [Zu, Nat.reduceSub, Nat.reduceBEq]; with_reducible rfl)) | ((with_reducible first | refine QS (cfg_ok 72) Tab.none (s' := ?_) ?_ ?_ | refine QC (b := ?_) ?_ ?_); rotate_left 1; focus ((with_reducible refine QW ?_); simp only [Zg, seval, if_true, if_false, reduceCtorEq, Nat.reduceEqDiff]; with_reducible rfl)))
  refine RunK.loop (β := Nat) (γ := Unit) (fun i => ⟨[(0, .c (.val (.int n))), (3, .c (.own 3 i)), (4, .c (.own 4 0)), (11, .c (.val (.int n))), (12, .c (.val (.int i)))], [(3, .row 1 ((List.range i).map fun (j : Nat) => [.int j]) true), (4, .row 1 [] true)]⟩) (fun i => i ≤ n) (fun i => n - i)
    (fun _ => ⟨[(0, .c (.val (.int n))), (3, .c (.own 3 n)), (4, .c (.own 4 0))], [(3, .row 1 ((List.range n).map fun (j : Nat) => [.int j]) true), (4, .row 1 [] true)]⟩) (fun _ => True) 0 (Nat.zero_le _) ?_ ?_ ?_
  · (repeat' (first | with_reducible refine Qn | ((with_reducible refine Qr ?_ ?_); focus (first | with_reducible rfl | (simp only [Zz, Nat.reduceBEq, List.range_zero]; done) | rfl)) | ((with_reducible refine Qj (o' := ?_) ?_ ?_ ?_); rotate_left 1; focus rfl) | ((with_reducible refine Qw ?_ ?_); (focus (first | with_reducible rfl | (simp only [Zv, List.range_zero]; done))); focus (first | exact id | exact (fun h => nomatch h) | exact (fun _ => rfl)))))
  · intro i hi
    have hw := w64_succ (n := i) (by omega)
    have q1 := big_le (n := i + 1) (by omega)
    have q2 := big_mul (n := i + 1) (c := 8) (by omega) (by omega)
    by_cases h : i < n
    · have i1 : ((i : Int) < (n : Int)) = True := eq_true (by omega)
      repeat' (first | with_reducible (first | refine Q1 ?_ | refine Q2 ?_ | refine Q3 ?_ | refine Q4 ?_ | refine Q5 ?_ | refine Q6 ?_ | refine Q7 ?_ | refine Q8 ?_ | refine Q9 ?_ | refine Qa ?_ | refine Qb ?_ | refine Qc ?_ | refine Qd ?_ | refine Qe ?_ | refine Qf ?_) | ((with_reducible refine Qo ?_ ?_); focus rfl) | ((with_reducible first | refine QT 13 (l := ?_) ?_ ?_ | refine QF 13 (l := ?_) ?_ ?_); rotate_left 1; focus (simp only [Zu, Nat.reduceSub, Nat.reduceBEq]; with_reducible rfl)) | ((with_reducible first | refine QS (cfg_ok 72) Tab.none (s' := ?_) ?_ ?_ | refine QC (b := ?_) ?_ ?_); rotate_left 1; focus ((with_reducible refine QW ?_); simp only [Zg, seval, if_true, if_false, reduceCtorEq, Nat.reduceEqDiff, List.length_map, List.length_range, i1, hw, q1, q2]; with_reducible rfl)))
      refine roundK.on (i + 1) ⟨h, by omega⟩ ?_
      (repeat' (first | with_reducible refine Qn | ((with_reducible refine Qr ?_ ?_); focus (first | with_reducible rfl | (simp only [Zz, Nat.reduceBEq, List.range_succ]; done) | rfl)) | ((with_reducible refine Qj (o' := ?_) ?_ ?_ ?_); rotate_left 1; focus rfl) | ((with_reducible refine Qw ?_ ?_); (focus (first | with_reducible rfl | (simp only [Zv, List.range_succ]; done))); focus (first | exact id | exact (fun h => nomatch h) | exact (fun _ => rfl)))))
    · have i1 : ((i : Int) < (n : Int)) = False := eq_false (by omega)
      obtain rfl : i = n := by omega
      repeat' (first | with_reducible (first | refine Q1 ?_ | refine Q2 ?_ | refine Q3 ?_ | refine Q4 ?_ | refine Q5 ?_ | refine Q6 ?_ | refine Q7 ?_ | refine Q8 ?_ | refine Q9 ?_ | refine Qa ?_ | refine Qb ?_ | refine Qc ?_ | refine Qd ?_ | refine Qe ?_ | refine Qf ?_) | ((with_reducible refine Qo ?_ ?_); focus rfl) | ((with_reducible first | refine QT 13 (l := ?_) ?_ ?_ | refine QF 13 (l := ?_) ?_ ?_); rotate_left 1; focus (simp only [Zu, Nat.reduceSub, Nat.reduceBEq]; with_reducible rfl)) | ((with_reducible first | refine QS (cfg_ok 72) Tab.none (s' := ?_) ?_ ?_ | refine QC (b := ?_) ?_ ?_); rotate_left 1; focus ((with_reducible refine QW ?_); simp only [Zg, seval, if_true, if_false, reduceCtorEq, Nat.reduceEqDiff, i1]; with_reducible rfl)))
      refine roundK.out () trivial ?_
      (repeat' (first | with_reducible refine Qn | ((with_reducible refine Qr ?_ ?_); focus (first | with_reducible rfl | (simp only [Zz, Nat.reduceBEq]; done) | rfl)) | ((with_reducible refine Qj (o' := ?_) ?_ ?_ ?_); rotate_left 1; focus rfl) | ((with_reducible refine Qw ?_ ?_); (focus (first | with_reducible rfl | (simp only [Zv]; done))); focus (first | exact id | exact (fun h => nomatch h) | exact (fun _ => rfl)))))
  · rintro _ _
    repeat' (first | with_reducible (first | refine Q1 ?_ | refine Q2 ?_ | refine Q3 ?_ | refine Q4 ?_ | refine Q5 ?_ | refine Q6 ?_ | refine Q7 ?_ | refine Q8 ?_ | refine Q9 ?_ | refine Qa ?_ | refine Qb ?_ | refine Qc ?_ | refine Qd ?_ | refine Qe ?_ | refine Qf ?_) | ((with_reducible refine Qo ?_ ?_); focus rfl) | ((with_reducible first | refine QT 13 (l := ?_) ?_ ?_ | refine QF 13 (l := ?_) ?_ ?_); rotate_left 1; focus (simp only [Zu, Nat.reduceSub, Nat.reduceBEq]; with_reducible rfl)) | ((with_reducible first | refine QS (cfg_ok 72) Tab.none (s' := ?_) ?_ ?_ | refine QC (b := ?_) ?_ ?_); rotate_left 1; focus ((with_reducible refine QW ?_); simp only [Zg, seval, if_true, if_false, reduceCtorEq, Nat.reduceEqDiff]; with_reducible rfl)))
    refine RunK.loop (β := Nat × List (List Int) × List Int) (γ := Unit) (fun x => ⟨[(0, .c (.val (.int n))), (3, .c (.own 3 n)), (4, .c (.own 4 x.2.1.length))], [(3, .row 1 (x.2.2.map eI) true), (4, .row 1 (x.2.1.map eL) true)]⟩)
      (fun x => treesN n = x.2.1 ++ treesF x.1 x.2.2 ∧ x.2.1.length + x.1 = 120 ∧ 0 < x.1) (fun x => x.1)
      (fun _ => ⟨[], []⟩) (fun _ => False) (120, [], (List.range n).map fun (i : Nat) => (i : Int)) ⟨rfl, rfl, by show 0 < 120; omega⟩ ?_ ?_ ?_
    · (repeat' (first | with_reducible refine Qn | ((with_reducible refine Qr ?_ ?_); focus (first | with_reducible rfl | (simp only [Zz, Nat.reduceBEq, List.map_map, eI, Function.comp_def]; done) | rfl)) | ((with_reducible refine Qj (o' := ?_) ?_ ?_ ?_); rotate_left 1; focus rfl) | ((with_reducible refine Qw ?_ ?_); (focus (first | with_reducible rfl | (simp only [Zv, List.map_map, eI, Function.comp_def]; done))); focus (first | exact id | exact (fun h => nomatch h) | exact (fun _ => rfl)))))
    · rintro ⟨f, done, t⟩ ⟨h1, h2, h3⟩
      have h1 : treesN n = done ++ treesF f t := h1
      have h2 : done.length + f = 120 := h2
      have h3 : 0 < f := h3
      obtain ⟨f, rfl⟩ : ∃ f', f = f' + 1 := ⟨f - 1, by omega⟩
      have hmem : t ∈ treesN n := by rw [h1]; exact List.mem_append_right _ (by simp [treesF])
      have hso := hok t hmem
      unfold stepOk at hso
      simp only [Bool.and_eq_true, beq_iff_eq] at hso
      obtain ⟨⟨htl, htb⟩, hstep⟩ := hso
      have hdl : done.length ≤ 115 := by have := congrArg List.length h1; simp at this; omega
      have q1 := big_le (n := done.length + 1) (by omega)
      have q2 := big_mul (n := done.length + 1) (c := 24) (by omega) (by omega)
      have hcl := a_slicesClone t (by omega)
      have htlI : ((t.map eI).length) = n := by simp [htl]
      have hwn : w64 ((n : Int) - 1) = (n : Int) - 1 := w64_eq (by omega)
      repeat' (first | with_reducible (first | refine Q1 ?_ | refine Q2 ?_ | refine Q3 ?_ | refine Q4 ?_ | refine Q5 ?_ | refine Q6 ?_ | refine Q7 ?_ | refine Q8 ?_ | refine Q9 ?_ | refine Qa ?_ | refine Qb ?_ | refine Qc ?_ | refine Qd ?_ | refine Qe ?_ | refine Qf ?_) | ((with_reducible refine Qo ?_ ?_); focus rfl) | ((with_reducible first | refine QT 13 (l := ?_) ?_ ?_ | refine QF 13 (l := ?_) ?_ ?_); rotate_left 1; focus (simp only [Zu, Nat.reduceSub, Nat.reduceBEq]; with_reducible rfl)) | ((with_reducible first | refine QS (cfg_ok 72) (Tab.none.at' 158 hcl) (s' := ?_) ?_ ?_ | refine QC (b := ?_) ?_ ?_); rotate_left 1; focus ((with_reducible refine QW ?_); simp only [Zg, seval, if_true, if_false, reduceCtorEq, Nat.reduceEqDiff, eL, htlI, List.length_map, htl, q1, q2, hwn]; with_reducible rfl)))
      have hget : ∀ {k : Nat} (hk : k < n), (t.map eI)[k]? = some [.int (t.getD k 0)] := by
        intro k hk
        rw [map_get (by omega)]; simp [eI, List.getD_eq_getElem?_getD, List.getElem?_eq_getElem (show k < t.length by omega)]
      have hbd : ∀ {k : Nat} (hk : k < n), 0 ≤ t.getD k 0 ∧ t.getD k 0 ≤ 8 := by
        intro k hk
        have := List.all_eq_true.1 htb (t.getD k 0) (by rw [List.getD_eq_getElem?_getD, List.getElem?_eq_getElem (show k < t.length by omega)]; exact List.getElem_mem _)
        simpa using this
      refine RunK.loop (β := Nat) (γ := Nat) (fun m => ⟨[(0, .c (.val (.int n))), (3, .c (.own 3 n)), (4, .c (.own 4 (done.length + 1))), (6, .c (.val (.int ((m : Int) - 1))))], [(3, .row 1 (t.map eI) true), (4, .row 1 (done.map eL ++ [[.sl 1 (t.map eI)]]) true)]⟩)
        (fun m => m ≤ n ∧ lastBig t n = lastBig t m) (fun m => m)
        (fun m => ⟨[(0, .c (.val (.int n))), (3, .c (.own 3 n)), (4, .c (.own 4 (done.length + 1))), (6, .c (.val (.int ((m : Int) - 1))))], [(3, .row 1 (t.map eI) true), (4, .row 1 (done.map eL ++ [[.sl 1 (t.map eI)]]) true)]⟩) (fun m => lastBig t n = m) n ⟨Nat.le_refl _, rfl⟩ ?_ ?_ ?_
      · (repeat' (first | with_reducible refine Qn | ((with_reducible refine Qr ?_ ?_); focus (first | with_reducible rfl | (simp only [Zz, Nat.reduceBEq]; done) | rfl)) | ((with_reducible refine Qj (o' := ?_) ?_ ?_ ?_); rotate_left 1; focus rfl) | ((with_reducible refine Qw ?_ ?_); (focus (first | with_reducible rfl | (simp only [Zv]; done))); focus (first | exact id | exact (fun h => nomatch h) | exact (fun _ => rfl)))))
      · rintro m ⟨hm, hlb⟩
        rcases m with _ | k
        · have i1 : ((((0 : Nat) : Int) - 1) ≥ 0) = False := eq_false (by omega)
          repeat' (first | with_reducible (first | refine Q1 ?_ | refine Q2 ?_ | refine Q3 ?_ | refine Q4 ?_ | refine Q5 ?_ | refine Q6 ?_ | refine Q7 ?_ | refine Q8 ?_ | refine Q9 ?_ | refine Qa ?_ | refine Qb ?_ | refine Qc ?_ | refine Qd ?_ | refine Qe ?_ | refine Qf ?_) | ((with_reducible refine Qo ?_ ?_); focus rfl) | ((with_reducible first | refine QT 13 (l := ?_) ?_ ?_ | refine QF 13 (l := ?_) ?_ ?_); rotate_left 1; focus (simp only [Zu, Nat.reduceSub, Nat.reduceBEq]; with_reducible rfl)) | ((with_reducible first | refine QS (cfg_ok 72) Tab.none (s' := ?_) ?_ ?_ | refine QC (b := ?_) ?_ ?_); rotate_left 1; focus ((with_reducible refine QW ?_); simp only [Zg, seval, if_true, if_false, reduceCtorEq, Nat.reduceEqDiff, i1]; with_reducible rfl)))
          refine roundK.out 0 hlb ?_
          (repeat' (first | with_reducible refine Qn | ((with_reducible refine Qr ?_ ?_); focus (first | with_reducible rfl | (simp only [Zz, Nat.reduceBEq]; done) | rfl)) | ((with_reducible refine Qj (o' := ?_) ?_ ?_ ?_); rotate_left 1; focus rfl) | ((with_reducible refine Qw ?_ ?_); (focus (first | with_reducible rfl | (simp only [Zv]; done))); focus (first | exact id | exact (fun h => nomatch h) | exact (fun _ => rfl)))))
        · have hA : (((k + 1 : Nat) : Int) - 1) = (k : Int) := by omega
          have i1 : ((k : Int) ≥ 0) = True := eq_true (by omega)
          have i2 : ((0 : Int) ≤ (k : Int)) = True := eq_true (by omega)
          have i5 : ((k : Int) < (n : Int)) = True := eq_true (by have : k + 1 ≤ n := hm; omega)
          have hk := hget (k := k) (by have : k + 1 ≤ n := hm; omega)
          have hw : w64 ((k : Int) - 1) = (k : Int) - 1 := w64_eq (by omega)
          by_cases hle : t.getD k 0 ≤ 1
          · have i3 : (t.getD k 0 ≤ 1) = True := eq_true hle
            repeat' (first | with_reducible (first | refine Q1 ?_ | refine Q2 ?_ | refine Q3 ?_ | refine Q4 ?_ | refine Q5 ?_ | refine Q6 ?_ | refine Q7 ?_ | refine Q8 ?_ | refine Q9 ?_ | refine Qa ?_ | refine Qb ?_ | refine Qc ?_ | refine Qd ?_ | refine Qe ?_ | refine Qf ?_) | ((with_reducible refine Qo ?_ ?_); focus rfl) | ((with_reducible first | refine QT 13 (l := ?_) ?_ ?_ | refine QF 13 (l := ?_) ?_ ?_); rotate_left 1; focus (simp only [Zu, Nat.reduceSub, Nat.reduceBEq]; with_reducible rfl)) | ((with_reducible first | refine QS (cfg_ok 72) Tab.none (s' := ?_) ?_ ?_ | refine QC (b := ?_) ?_ ?_); rotate_left 1; focus ((with_reducible refine QW ?_); simp only [Zg, seval, if_true, if_false, reduceCtorEq, Nat.reduceEqDiff, hA, i1, i2, i5, hk, i3, hw, htlI, Int.toNat_natCast]; with_reducible rfl)))
            refine roundK.on k ⟨⟨by omega, ?_⟩, by omega⟩ ?_
            · rw [hlb]
              show (if t.getD k 0 ≤ 1 then lastBig t k else k + 1) = lastBig t k
              rw [if_pos hle]
            · (repeat' (first | with_reducible refine Qn | ((with_reducible refine Qr ?_ ?_); focus (first | with_reducible rfl | (simp only [Zz, Nat.reduceBEq]; done) | rfl)) | ((with_reducible refine Qj (o' := ?_) ?_ ?_ ?_); rotate_left 1; focus rfl) | ((with_reducible refine Qw ?_ ?_); (focus (first | with_reducible rfl | (simp only [Zv]; done))); focus (first | exact id | exact (fun h => nomatch h) | exact (fun _ => rfl)))))
          · have i3 : (t.getD k 0 ≤ 1) = False := eq_false hle
            repeat' (first | with_reducible (first | refine Q1 ?_ | refine Q2 ?_ | refine Q3 ?_ | refine Q4 ?_ | refine Q5 ?_ | refine Q6 ?_ | refine Q7 ?_ | refine Q8 ?_ | refine Q9 ?_ | refine Qa ?_ | refine Qb ?_ | refine Qc ?_ | refine Qd ?_ | refine Qe ?_ | refine Qf ?_) | ((with_reducible refine Qo ?_ ?_); focus rfl) | ((with_reducible first | refine QT 13 (l := ?_) ?_ ?_ | refine QF 13 (l := ?_) ?_ ?_); rotate_left 1; focus (simp only [Zu, Nat.reduceSub, Nat.reduceBEq]; with_reducible rfl)) | ((with_reducible first | refine QS (cfg_ok 72) Tab.none (s' := ?_) ?_ ?_ | refine QC (b := ?_) ?_ ?_); rotate_left 1; focus ((with_reducible refine QW ?_); simp only [Zg, seval, if_true, if_false, reduceCtorEq, Nat.reduceEqDiff, hA, i1, i2, i5, hk, i3, hw, htlI, Int.toNat_natCast]; with_reducible rfl)))
            refine roundK.out (k + 1) ?_ ?_
            · rw [hlb]
              show (if t.getD k 0 ≤ 1 then lastBig t k else k + 1) = k + 1
              rw [if_neg hle]
            · (repeat' (first | with_reducible refine Qn | ((with_reducible refine Qr ?_ ?_); focus (first | with_reducible rfl | (simp only [Zz, Nat.reduceBEq, hA]; done) | rfl)) | ((with_reducible refine Qj (o' := ?_) ?_ ?_ ?_); rotate_left 1; focus rfl) | ((with_reducible refine Qw ?_ ?_); (focus (first | with_reducible rfl | (simp only [Zv, hA]; done))); focus (first | exact id | exact (fun h => nomatch h) | exact (fun _ => rfl)))))
      · intro m hm
        have hm : lastBig t n = m := hm
        rw [hm] at hstep
        rcases m with _ | p
        · have i1 : ((((0 : Nat) : Int) - 1) < 0) = True := eq_true (by omega)
          repeat' (first | with_reducible (first | refine Q1 ?_ | refine Q2 ?_ | refine Q3 ?_ | refine Q4 ?_ | refine Q5 ?_ | refine Q6 ?_ | refine Q7 ?_ | refine Q8 ?_ | refine Q9 ?_ | refine Qa ?_ | refine Qb ?_ | refine Qc ?_ | refine Qd ?_ | refine Qe ?_ | refine Qf ?_) | ((with_reducible refine Qo ?_ ?_); focus rfl) | ((with_reducible first | refine QT 13 (l := ?_) ?_ ?_ | refine QF 13 (l := ?_) ?_ ?_); rotate_left 1; focus (simp only [Zu, Nat.reduceSub, Nat.reduceBEq]; with_reducible rfl)) | ((with_reducible first | refine QS (cfg_ok 72) Tab.none (s' := ?_) ?_ ?_ | refine QC (b := ?_) ?_ ?_); rotate_left 1; focus ((with_reducible refine QW ?_); simp only [Zg, seval, if_true, if_false, reduceCtorEq, Nat.reduceEqDiff, i1]; with_reducible rfl)))
          have hnx : nextT t = none := by unfold nextT; rw [htl, hm]
          have htr : treesN n = done ++ [t] := by rw [h1]; unfold treesF; rw [hnx]
          refine roundK.ret ?_
          repeat' (first | with_reducible (first | refine Q1 ?_ | refine Q2 ?_ | refine Q3 ?_ | refine Q4 ?_ | refine Q5 ?_ | refine Q6 ?_ | refine Q7 ?_ | refine Q8 ?_ | refine Q9 ?_ | refine Qa ?_ | refine Qb ?_ | refine Qc ?_ | refine Qd ?_ | refine Qe ?_ | refine Qf ?_) | ((with_reducible refine Qo ?_ ?_); focus rfl) | ((with_reducible first | refine QT 13 (l := ?_) ?_ ?_ | refine QF 13 (l := ?_) ?_ ?_); rotate_left 1; focus (simp only [Zu, Nat.reduceSub, Nat.reduceBEq]; with_reducible rfl)) | ((with_reducible first | refine QS (cfg_ok 72) Tab.none (s' := ?_) ?_ ?_ | refine QC (b := ?_) ?_ ?_); rotate_left 1; focus ((with_reducible refine QW ?_); simp only [Zg, seval, if_true, if_false, reduceCtorEq, Nat.reduceEqDiff]; with_reducible rfl)))
          rw [htr]
          (refine Ends.mk (by simp) (rs := ?_) (ks := ?_) hres hrts ?_ ?_ ?_; rotate_left 2; (focus (simp only [Ze, Zg, seval, if_true, if_false, reduceCtorEq, Nat.reduceEqDiff, List.map_append, List.map_cons, List.map_nil, eL]; with_reducible rfl)); (focus simp); focus (first | with_reducible rfl | (simp only [Zv, List.map_append, List.map_cons, List.map_nil, eL]; done)))
        · have hA : (((p + 1 : Nat) : Int) - 1) = (p : Int) := by omega
          have i1 : ((p : Int) < 0) = False := eq_false (by omega)
          obtain ⟨hpn, hq, hqv⟩ : p < n ∧ lastEq t (t.getD p 0 - 1) p < p ∧ t.getD (lastEq t (t.getD p 0 - 1) p) 0 = t.getD p 0 - 1 := by simpa [and_assoc] using hstep
          generalize hqd : lastEq t (t.getD p 0 - 1) p = q at hq hqv
          have hwp : w64 ((p : Int) - 1) = (p : Int) - 1 := w64_eq (by omega)
          repeat' (first | with_reducible (first | refine Q1 ?_ | refine Q2 ?_ | refine Q3 ?_ | refine Q4 ?_ | refine Q5 ?_ | refine Q6 ?_ | refine Q7 ?_ | refine Q8 ?_ | refine Q9 ?_ | refine Qa ?_ | refine Qb ?_ | refine Qc ?_ | refine Qd ?_ | refine Qe ?_ | refine Qf ?_) | ((with_reducible refine Qo ?_ ?_); focus rfl) | ((with_reducible first | refine QT 13 (l := ?_) ?_ ?_ | refine QF 13 (l := ?_) ?_ ?_); rotate_left 1; focus (simp only [Zu, Nat.reduceSub, Nat.reduceBEq]; with_reducible rfl)) | ((with_reducible first | refine QS (cfg_ok 72) Tab.none (s' := ?_) ?_ ?_ | refine QC (b := ?_) ?_ ?_); rotate_left 1; focus ((with_reducible refine QW ?_); simp only [Zg, seval, if_true, if_false, reduceCtorEq, Nat.reduceEqDiff, hA, i1, hwp]; with_reducible rfl)))
          have i2 : ((0 : Int) ≤ (p : Int)) = True := eq_true (by omega)
          have hp := hget hpn
          have i5 : ((p : Int) < (n : Int)) = True := eq_true (by omega)
          have hpb := hbd hpn
          have hwl : w64 (t.getD p 0 - 1) = t.getD p 0 - 1 := w64_eq (by omega)
          refine RunK.loop (β := Nat) (γ := Unit) (fun j => ⟨[(0, .c (.val (.int n))), (3, .c (.own 3 n)), (4, .c (.own 4 (done.length + 1))), (6, .c (.val (.int p))), (7, .c (.val (.int ((j : Int) - 1))))], [(3, .row 1 (t.map eI) true), (4, .row 1 (done.map eL ++ [[.sl 1 (t.map eI)]]) true)]⟩)
            (fun j => j ≤ p ∧ lastEq t (t.getD p 0 - 1) j = q ∧ q < j) (fun j => j)
            (fun _ => ⟨[(0, .c (.val (.int n))), (3, .c (.own 3 n)), (4, .c (.own 4 (done.length + 1))), (6, .c (.val (.int p))), (7, .c (.val (.int q)))], [(3, .row 1 (t.map eI) true), (4, .row 1 (done.map eL ++ [[.sl 1 (t.map eI)]]) true)]⟩) (fun _ => True) p ⟨Nat.le_refl _, hqd, hq⟩ ?_ ?_ ?_
          · (repeat' (first | with_reducible refine Qn | ((with_reducible refine Qr ?_ ?_); focus (first | with_reducible rfl | (simp only [Zz, Nat.reduceBEq]; done) | rfl)) | ((with_reducible refine Qj (o' := ?_) ?_ ?_ ?_); rotate_left 1; focus rfl) | ((with_reducible refine Qw ?_ ?_); (focus (first | with_reducible rfl | (simp only [Zv]; done))); focus (first | exact id | exact (fun h => nomatch h) | exact (fun _ => rfl)))))
          · rintro j ⟨hj, hje, hqj⟩
            rcases j with _ | k
            · exact absurd hqj (Nat.not_lt_zero _)
            · have hA : (((k + 1 : Nat) : Int) - 1) = (k : Int) := by omega
              have hje : (if t.getD k 0 = t.getD p 0 - 1 then k else lastEq t (t.getD p 0 - 1) k) = q := hje
              have hj : k + 1 ≤ p := hj
              have hqj : q < k + 1 := hqj
              have i3 : ((0 : Int) ≤ (k : Int)) = True := eq_true (by omega)
              have hk := hget (k := k) (by omega)
              have i6 : ((k : Int) < (n : Int)) = True := eq_true (by omega)
              have hw : w64 ((k : Int) - 1) = (k : Int) - 1 := w64_eq (by omega)
              by_cases heq : t.getD k 0 = t.getD p 0 - 1
              · rw [if_pos heq] at hje
                have i4 : (t.getD k 0 == t.getD p 0 - 1) = true := beq_iff_eq.2 heq
                repeat' (first | with_reducible (first | refine Q1 ?_ | refine Q2 ?_ | refine Q3 ?_ | refine Q4 ?_ | refine Q5 ?_ | refine Q6 ?_ | refine Q7 ?_ | refine Q8 ?_ | refine Q9 ?_ | refine Qa ?_ | refine Qb ?_ | refine Qc ?_ | refine Qd ?_ | refine Qe ?_ | refine Qf ?_) | ((with_reducible refine Qo ?_ ?_); focus rfl) | ((with_reducible first | refine QT 13 (l := ?_) ?_ ?_ | refine QF 13 (l := ?_) ?_ ?_); rotate_left 1; focus (simp only [Zu, Nat.reduceSub, Nat.reduceBEq]; with_reducible rfl)) | ((with_reducible first | refine QS (cfg_ok 72) Tab.none (s' := ?_) ?_ ?_ | refine QC (b := ?_) ?_ ?_); rotate_left 1; focus ((with_reducible refine QW ?_); simp only [Zg, seval, if_true, if_false, reduceCtorEq, Nat.reduceEqDiff, hA, i2, i3, i5, i6, hk, hp, hwl, hw, htlI, heq, i4, Int.toNat_natCast]; with_reducible rfl)) | ((with_reducible refine QD (cfg_ok 72) Tab.none mixed_ok (tr := ?_) (s' := ?_) ?_ ?_ ?_); rotate_left 2; (focus ((with_reducible refine QW ?_); simp only [Zg, Zd, seval, if_true, if_false, reduceCtorEq, Nat.reduceEqDiff, hA, i2, i3, i5, i6, hk, hp, hwl, hw, htlI, heq, i4, Int.toNat_natCast]; with_reducible rfl)); focus ((with_reducible refine QK ?_); simp only [Zk]; kernel_rfl)))
                refine roundK.out () trivial ?_
                (repeat' (first | with_reducible refine Qn | ((with_reducible refine Qr ?_ ?_); focus (first | with_reducible rfl | (simp only [Zz, Nat.reduceBEq, hje]; done) | rfl)) | ((with_reducible refine Qj (o' := ?_) ?_ ?_ ?_); rotate_left 1; focus rfl) | ((with_reducible refine Qw ?_ ?_); (focus (first | with_reducible rfl | (simp only [Zv, hje]; done))); focus (first | exact id | exact (fun h => nomatch h) | exact (fun _ => rfl)))))
              · rw [if_neg heq] at hje
                have i4 : (t.getD k 0 != t.getD p 0 - 1) = true := bne_iff_ne.2 heq
                repeat' (first | with_reducible (first | refine Q1 ?_ | refine Q2 ?_ | refine Q3 ?_ | refine Q4 ?_ | refine Q5 ?_ | refine Q6 ?_ | refine Q7 ?_ | refine Q8 ?_ | refine Q9 ?_ | refine Qa ?_ | refine Qb ?_ | refine Qc ?_ | refine Qd ?_ | refine Qe ?_ | refine Qf ?_) | ((with_reducible refine Qo ?_ ?_); focus rfl) | ((with_reducible first | refine QT 13 (l := ?_) ?_ ?_ | refine QF 13 (l := ?_) ?_ ?_); rotate_left 1; focus (simp only [Zu, Nat.reduceSub, Nat.reduceBEq]; with_reducible rfl)) | ((with_reducible first | refine QS (cfg_ok 72) Tab.none (s' := ?_) ?_ ?_ | refine QC (b := ?_) ?_ ?_); rotate_left 1; focus ((with_reducible refine QW ?_); simp only [Zg, seval, if_true, if_false, reduceCtorEq, Nat.reduceEqDiff, hA, i2, i3, i5, i6, hk, hp, hwl, hw, htlI, i4, Int.toNat_natCast]; with_reducible rfl)) | ((with_reducible refine QD (cfg_ok 72) Tab.none mixed_ok (tr := ?_) (s' := ?_) ?_ ?_ ?_); rotate_left 2; (focus ((with_reducible refine QW ?_); simp only [Zg, Zd, seval, if_true, if_false, reduceCtorEq, Nat.reduceEqDiff, hA, i2, i3, i5, i6, hk, hp, hwl, hw, htlI, i4, Int.toNat_natCast]; with_reducible rfl)); focus ((with_reducible refine QK ?_); simp only [Zk]; kernel_rfl)))
                refine roundK.on k ⟨⟨by omega, hje, ?_⟩, by omega⟩ ?_
                · rcases Nat.lt_or_ge q k with h | h
                  · exact h
                  · obtain rfl : q = k := by omega
                    exact absurd hqv heq
                · (repeat' (first | with_reducible refine Qn | ((with_reducible refine Qr ?_ ?_); focus (first | with_reducible rfl | (simp only [Zz, Nat.reduceBEq]; done) | rfl)) | ((with_reducible refine Qj (o' := ?_) ?_ ?_ ?_); rotate_left 1; focus rfl) | ((with_reducible refine Qw ?_ ?_); (focus (first | with_reducible rfl | (simp only [Zv]; done))); focus (first | exact id | exact (fun h => nomatch h) | exact (fun _ => rfl)))))
          · rintro _ _
            repeat' (first | with_reducible (first | refine Q1 ?_ | refine Q2 ?_ | refine Q3 ?_ | refine Q4 ?_ | refine Q5 ?_ | refine Q6 ?_ | refine Q7 ?_ | refine Q8 ?_ | refine Q9 ?_ | refine Qa ?_ | refine Qb ?_ | refine Qc ?_ | refine Qd ?_ | refine Qe ?_ | refine Qf ?_) | ((with_reducible refine Qo ?_ ?_); focus rfl) | ((with_reducible first | refine QT 13 (l := ?_) ?_ ?_ | refine QF 13 (l := ?_) ?_ ?_); rotate_left 1; focus (simp only [Zu, Nat.reduceSub, Nat.reduceBEq]; with_reducible rfl)) | ((with_reducible first | refine QS (cfg_ok 72) Tab.none (s' := ?_) ?_ ?_ | refine QC (b := ?_) ?_ ?_); rotate_left 1; focus ((with_reducible refine QW ?_); simp only [Zg, seval, if_true, if_false, reduceCtorEq, Nat.reduceEqDiff]; with_reducible rfl)))
            refine RunK.loop (β := Nat) (γ := Unit) (fun k => ⟨[(0, .c (.val (.int n))), (3, .c (.own 3 n)), (4, .c (.own 4 (done.length + 1))), (6, .c (.val (.int p))), (7, .c (.val (.int q))), (8, .c (.val (.int (p + k : Nat))))], [(3, .row 1 ((copyFrom p q k t).map eI) true), (4, .row 1 (done.map eL ++ [[.sl 1 (t.map eI)]]) true)]⟩)
              (fun k => p + k ≤ n) (fun k => n - k)
              (fun _ => ⟨[(0, .c (.val (.int n))), (3, .c (.own 3 n)), (4, .c (.own 4 (done.length + 1)))], [(3, .row 1 ((copyFrom p q (n - p) t).map eI) true), (4, .row 1 (done.map eL ++ [[.sl 1 (t.map eI)]]) true)]⟩) (fun _ => True) 0 (Nat.le_of_lt hpn) ?_ ?_ ?_
            · (repeat' (first | with_reducible refine Qn | ((with_reducible refine Qr ?_ ?_); focus (first | with_reducible rfl | (simp only [Zz, Nat.reduceBEq, copyFrom]; done) | rfl)) | ((with_reducible refine Qj (o' := ?_) ?_ ?_ ?_); rotate_left 1; focus rfl) | ((with_reducible refine Qw ?_ ?_); (focus (first | with_reducible rfl | (simp only [Zv, copyFrom]; done))); focus (first | exact id | exact (fun h => nomatch h) | exact (fun _ => rfl)))))
            · intro k hk
              have hk : p + k ≤ n := hk
              have hcl' := copyFrom_len p q t k
              have hlI : ((copyFrom p q k t).map eI).length = n := by simp [hcl', htl]
              by_cases h : p + k < n
              · have j1 : (((p + k : Nat) : Int) < (n : Int)) = True := eq_true (by omega)
                have j2 : w64 ((p : Int) - (q : Int)) = ((p - q : Nat) : Int) := by rw [w64_eq (by omega)]; omega
                have j3 : w64 (((p + k : Nat) : Int) - ((p - q : Nat) : Int)) = ((p + k - (p - q) : Nat) : Int) := by rw [w64_eq (by omega)]; omega
                have j4 : ((copyFrom p q k t).map eI)[p + k - (p - q)]? = some [.int ((copyFrom p q k t).getD (p + k - (p - q)) 0)] := by
                  rw [map_get (by omega)]; simp [eI, List.getD_eq_getElem?_getD, List.getElem?_eq_getElem (show p + k - (p - q) < (copyFrom p q k t).length by omega)]
                have j5 : ((0 : Int) ≤ ((p + k - (p - q) : Nat) : Int)) = True := eq_true (by omega)
                have j6 : ((0 : Int) ≤ ((p + k : Nat) : Int)) = True := eq_true (by omega)
                have j7 : (((p + k - (p - q) : Nat) : Int) < (n : Int)) = True := eq_true (by omega)
                have j9 : ((copyFrom p q k t).map eI)[p + k]? = some [.int ((copyFrom p q k t).getD (p + k) 0)] := by
                  rw [map_get (by omega)]; simp [eI, List.getD_eq_getElem?_getD, List.getElem?_eq_getElem (show p + k < (copyFrom p q k t).length by omega)]
                have j8 : w64 (((p + k : Nat) : Int) + 1) = ((p + k + 1 : Nat) : Int) := w64_succ (n := p + k) (by omega)
                repeat' (first | with_reducible (first | refine Q1 ?_ | refine Q2 ?_ | refine Q3 ?_ | refine Q4 ?_ | refine Q5 ?_ | refine Q6 ?_ | refine Q7 ?_ | refine Q8 ?_ | refine Q9 ?_ | refine Qa ?_ | refine Qb ?_ | refine Qc ?_ | refine Qd ?_ | refine Qe ?_ | refine Qf ?_) | ((with_reducible refine Qo ?_ ?_); focus rfl) | ((with_reducible first | refine QT 13 (l := ?_) ?_ ?_ | refine QF 13 (l := ?_) ?_ ?_); rotate_left 1; focus (simp only [Zu, Nat.reduceSub, Nat.reduceBEq]; with_reducible rfl)) | ((with_reducible first | refine QS (cfg_ok 72) Tab.none (s' := ?_) ?_ ?_ | refine QC (b := ?_) ?_ ?_); rotate_left 1; focus ((with_reducible refine QW ?_); simp only [Zg, seval, if_true, if_false, reduceCtorEq, Nat.reduceEqDiff, j1, j2, j3, j4, j5, j6, j7, j8, j9, hlI, Int.toNat_natCast]; with_reducible rfl)))
                refine roundK.on (k + 1) ⟨by show p + (k + 1) ≤ n; omega, by omega⟩ ?_
                (repeat' (first | with_reducible refine Qn | ((with_reducible refine Qr ?_ ?_); focus (first | with_reducible rfl | (simp only [Zz, Nat.reduceBEq, copyFrom, List.map_set, eI]; done) | rfl)) | ((with_reducible refine Qj (o' := ?_) ?_ ?_ ?_); rotate_left 1; focus rfl) | ((with_reducible refine Qw ?_ ?_); (focus (first | with_reducible rfl | (simp only [Zv, copyFrom, List.map_set, eI]; done))); focus (first | exact id | exact (fun h => nomatch h) | exact (fun _ => rfl)))))
              · have j1 : (((p + k : Nat) : Int) < (n : Int)) = False := eq_false (by omega)
                obtain rfl : k = n - p := by omega
                repeat' (first | with_reducible (first | refine Q1 ?_ | refine Q2 ?_ | refine Q3 ?_ | refine Q4 ?_ | refine Q5 ?_ | refine Q6 ?_ | refine Q7 ?_ | refine Q8 ?_ | refine Q9 ?_ | refine Qa ?_ | refine Qb ?_ | refine Qc ?_ | refine Qd ?_ | refine Qe ?_ | refine Qf ?_) | ((with_reducible refine Qo ?_ ?_); focus rfl) | ((with_reducible first | refine QT 13 (l := ?_) ?_ ?_ | refine QF 13 (l := ?_) ?_ ?_); rotate_left 1; focus (simp only [Zu, Nat.reduceSub, Nat.reduceBEq]; with_reducible rfl)) | ((with_reducible first | refine QS (cfg_ok 72) Tab.none (s' := ?_) ?_ ?_ | refine QC (b := ?_) ?_ ?_); rotate_left 1; focus ((with_reducible refine QW ?_); simp only [Zg, seval, if_true, if_false, reduceCtorEq, Nat.reduceEqDiff, j1]; with_reducible rfl)))
                refine roundK.out () trivial ?_
                (repeat' (first | with_reducible refine Qn | ((with_reducible refine Qr ?_ ?_); focus (first | with_reducible rfl | (simp only [Zz, Nat.reduceBEq]; done) | rfl)) | ((with_reducible refine Qj (o' := ?_) ?_ ?_ ?_); rotate_left 1; focus rfl) | ((with_reducible refine Qw ?_ ?_); (focus (first | with_reducible rfl | (simp only [Zv]; done))); focus (first | exact id | exact (fun h => nomatch h) | exact (fun _ => rfl)))))
            · rintro _ _
              repeat' (first | with_reducible (first | refine Q1 ?_ | refine Q2 ?_ | refine Q3 ?_ | refine Q4 ?_ | refine Q5 ?_ | refine Q6 ?_ | refine Q7 ?_ | refine Q8 ?_ | refine Q9 ?_ | refine Qa ?_ | refine Qb ?_ | refine Qc ?_ | refine Qd ?_ | refine Qe ?_ | refine Qf ?_) | ((with_reducible refine Qo ?_ ?_); focus rfl) | ((with_reducible first | refine QT 13 (l := ?_) ?_ ?_ | refine QF 13 (l := ?_) ?_ ?_); rotate_left 1; focus (simp only [Zu, Nat.reduceSub, Nat.reduceBEq]; with_reducible rfl)) | ((with_reducible first | refine QS (cfg_ok 72) Tab.none (s' := ?_) ?_ ?_ | refine QC (b := ?_) ?_ ?_); rotate_left 1; focus ((with_reducible refine QW ?_); simp only [Zg, seval, if_true, if_false, reduceCtorEq, Nat.reduceEqDiff]; with_reducible rfl)))
              have hnx : nextT t = some (copyFrom p q (n - p) t) := by unfold nextT; rw [htl, hm]; simp only [hqd]
              have htr : treesN n = (done ++ [t]) ++ treesF f (copyFrom p q (n - p) t) := by
                rw [h1, List.append_assoc]
                conv => lhs; unfold treesF
                rw [hnx]; rfl
              refine roundK.on (f, done ++ [t], copyFrom p q (n - p) t) ⟨⟨htr, ?_, ?_⟩, Nat.lt_succ_self f⟩ ?_
              · show (done ++ [t]).length + f = 120
                simp; omega
              · show 0 < f
                omega
              · (repeat' (first | with_reducible refine Qn | ((with_reducible refine Qr ?_ ?_); focus (first | with_reducible rfl | (simp only [Zz, Nat.reduceBEq, List.map_append, List.map_cons, List.map_nil, eL, List.length_append, List.length_cons, List.length_nil]; done) | rfl)) | ((with_reducible refine Qj (o' := ?_) ?_ ?_ ?_); rotate_left 1; focus rfl) | ((with_reducible refine Qw ?_ ?_); (focus (first | with_reducible rfl | (simp only [Zv, List.map_append, List.map_cons, List.map_nil, eL, List.length_append, List.length_cons, List.length_nil]; done))); focus (first | exact id | exact (fun h => nomatch h) | exact (fun _ => rfl)))))
    · rintro _ h
      exact h.elim
end Go.Proofs.YtfhmonacgmakbaaGreat
namespace Go.Proofs.YtfhmonacgmakbaaGreat
def mP (n : Int) : Int := n % 10007
section
variable {κ : Type} (c : κ → κ → Int)
def coef (L : List (Int × κ)) (x : κ) : Int :=
  match L with
  | [] => 0
  | q :: L => (if c q.2 x = 0 then q.1 else 0) + coef L x
def NfS (L : List (Int × κ)) : Prop := L.Pairwise (fun p q => c p.2 q.2 < 0) ∧ ∀ q ∈ L, 1 ≤ q.1 ∧ q.1 < 10007
end
section
variable {κ : Type} {c : κ → κ → Int} (hc : Cmp c)
theorem mP_small {n : Int} (h : 0 ≤ n) (h' : n < 10007) : mP n = n := Int.emod_eq_of_lt h h'
theorem mP_mP_add (a b : Int) : mP (mP a + b) = mP (a + b) := by unfold mP; omega
theorem coef_cons (q : Int × κ) (L : List (Int × κ)) (x : κ) : coef c (q :: L) x = (if c q.2 x = 0 then q.1 else 0) + coef c L x := rfl
theorem coef_zero {L : List (Int × κ)} {x : κ} (h : ∀ q ∈ L, c q.2 x ≠ 0) : coef c L x = 0 := by
  induction L with
  | nil => rfl
  | cons q L ih => rw [coef_cons, if_neg (h q (by simp)), ih (fun p hp => h p (by simp [hp]))]; rfl
include hc
theorem Cmp.eq_swap {a b : κ} (h : c a b = 0) : c b a = 0 := by rw [hc.zero a b h]; exact hc.refl b
theorem Cmp.lt_ne {a b : κ} (h : c a b < 0) : c b a ≠ 0 := by
  intro e
  have := hc.zero b a e
  subst this
  rw [hc.refl] at h; omega
theorem Cmp.lt_tr {a b d : κ} (h1 : c a b < 0) (h2 : c b d < 0) : c a d < 0 := by
  rcases Int.lt_trichotomy (c a d) 0 with h | h | h
  · exact h
  · have := hc.zero a d h
    subst this
    have := (hc.anti a b).1 h1
    omega
  · have := hc.trans a b d (by omega) (by omega)
    omega
theorem NfS.ext : ∀ {L M : List (Int × κ)}, NfS c L → NfS c M → (∀ x, mP (coef c L x) = mP (coef c M x)) → L = M
  | [], [], _, _, _ => rfl
  | [], (b, z) :: M, _, ⟨h2, h3⟩, he => by
    exfalso
    rw [List.pairwise_cons] at h2
    have h0 : coef c M z = 0 := coef_zero (fun q hq => hc.lt_ne (h2.1 q hq))
    have := he z
    rw [coef_cons, if_pos (hc.refl z), h0] at this
    have hb := h3 (b, z) (by simp)
    simp at hb
    simp [coef, mP] at this
    omega
  | (a, y) :: L, [], ⟨h2, h3⟩, _, he => by
    exfalso
    rw [List.pairwise_cons] at h2
    have h0 : coef c L y = 0 := coef_zero (fun q hq => hc.lt_ne (h2.1 q hq))
    have := he y
    rw [coef_cons, if_pos (hc.refl y), h0] at this
    have hb := h3 (a, y) (by simp)
    simp at hb
    simp [coef, mP] at this
    omega
  | (a, y) :: L, (b, z) :: M, ⟨h1, h1'⟩, ⟨h2, h2'⟩, he => by
    have w1 := h1; have w2 := h2
    rw [List.pairwise_cons] at h1 h2
    have ha := h1' (a, y) (by simp)
    have hb := h2' (b, z) (by simp)
    simp only at ha hb
    have hy0 : coef c L y = 0 := coef_zero (fun q hq => hc.lt_ne (h1.1 q hq))
    have hz0 : coef c M z = 0 := coef_zero (fun q hq => hc.lt_ne (h2.1 q hq))
    rcases Int.lt_trichotomy (c y z) 0 with h | h | h
    · exfalso
      have h4 : coef c ((b, z) :: M) y = 0 := coef_zero (fun q hq => by
        rcases List.mem_cons.1 hq with rfl | hq
        · exact hc.lt_ne h
        · exact hc.lt_ne (hc.lt_tr h (h2.1 q hq)))
      have := he y
      rw [h4, coef_cons, if_pos (hc.refl y), hy0] at this
      simp [mP] at this
      omega
    · obtain rfl := hc.zero y z h
      have hab : a = b := by
        have := he y
        rw [coef_cons, coef_cons, if_pos (hc.refl y), if_pos (hc.refl y), hy0, hz0] at this
        simp [mP] at this
        omega
      subst hab
      have := NfS.ext (L := L) (M := M) ⟨h1.2, fun q hq => h1' q (by simp [hq])⟩ ⟨h2.2, fun q hq => h2' q (by simp [hq])⟩ (fun x => by
        have := he x
        rw [coef_cons, coef_cons] at this
        unfold mP at this ⊢
        omega)
      rw [this]
    · exfalso
      have h := (hc.anti z y).2 h
      have h4 : coef c ((a, y) :: L) z = 0 := coef_zero (fun q hq => by
        rcases List.mem_cons.1 hq with rfl | hq
        · exact hc.lt_ne h
        · exact hc.lt_ne (hc.lt_tr h (h1.1 q hq)))
      have := he z
      rw [h4, coef_cons, if_pos (hc.refl z), hz0] at this
      simp [mP] at this
      omega
omit hc
include hc
end
end Go.Proofs.YtfhmonacgmakbaaGreat
namespace Go.Proofs.YtfhmonacgmakbaaGreat
def thenC {α : Type} (f : α → Int) (c : α → α → Int) (a b : α) : Int := if f a = f b then c a b else f a - f b
def lexC {α : Type} (c : α → α → Int) : List α → List α → Int
  | [], [] => 0
  | [], _ :: _ => -1
  | _ :: _, [] => 1
  | a :: xs, b :: bs => if c a b = 0 then lexC c xs bs else c a b
theorem thenC_cmp {α : Type} {f : α → Int} {c : α → α → Int} (h : Cmp c) : Cmp (thenC f c) where
  zero a b e := by
    unfold thenC at e
    split at e
    · exact h.zero a b e
    · omega
  refl a := by unfold thenC; rw [if_pos rfl]; exact h.refl a
  anti a b := by
    unfold thenC
    by_cases e : f a = f b
    · rw [if_pos e, if_pos e.symm]; exact h.anti a b
    · rw [if_neg e, if_neg (fun k => e k.symm)]; omega
  trans a b d h1 h2 := by
    unfold thenC at h1 h2 ⊢
    split at h1 <;> split at h2 <;> split <;> first | omega | (exact h.trans a b d h1 h2)
theorem Cmp.sym0 {α : Type} {c : α → α → Int} (h : Cmp c) {a b : α} (e : c a b = 0) : c b a = 0 := by rw [h.zero a b e]; exact h.refl b
theorem lexC_cmp {α : Type} {c : α → α → Int} (h : Cmp c) : Cmp (lexC c) where
  zero := by
    intro a
    induction a with
    | nil => intro b e; cases b with
      | nil => rfl
      | cons y bs => simp [lexC] at e
    | cons x xs ih => intro b e; cases b with
      | nil => simp [lexC] at e
      | cons y bs =>
        unfold lexC at e
        split at e
        · rename_i h1; rw [h.zero x y h1, ih bs e]
        · rename_i h1; exact absurd e h1
  refl := by
    intro a
    induction a with
    | nil => rfl
    | cons x xs ih => unfold lexC; rw [if_pos (h.refl x)]; exact ih
  anti := by
    intro a
    induction a with
    | nil => intro b; cases b <;> simp [lexC]
    | cons x xs ih => intro b; cases b with
      | nil => simp [lexC]
      | cons y bs =>
        unfold lexC
        by_cases e : c x y = 0
        · rw [if_pos e, if_pos (h.sym0 e)]; exact ih bs
        · rw [if_neg e, if_neg (fun k => e (h.sym0 k))]; exact h.anti x y
  trans := by
    intro a
    induction a with
    | nil => intro b d _ h2; cases d with
      | nil => simp [lexC]
      | cons z ds => simp [lexC]
    | cons x xs ih => intro b d h1 h2; cases b with
      | nil => simp [lexC] at h1
      | cons y bs => cases d with
        | nil => simp [lexC] at h2
        | cons z ds =>
          unfold lexC at h1 h2 ⊢
          have l1 : c x y ≤ 0 := by split at h1 <;> omega
          have l2 : c y z ≤ 0 := by split at h2 <;> omega
          have l3 := h.trans x y z l1 l2
          by_cases e : c x z = 0
          · rw [if_pos e]
            obtain rfl := h.zero x z e
            have e1 : c x y = 0 := by
              rcases Int.lt_trichotomy (c x y) 0 with k | k | k
              · have := (h.anti x y).1 k; omega
              · exact k
              · omega
            rw [if_pos e1] at h1
            rw [if_pos (h.sym0 e1)] at h2
            exact ih bs ds h1 h2
          · rw [if_neg e]; exact l3
def cmpF : List (List Int) → List (List Int) → Int := thenC (fun f => (sumLen f : Int)) (thenC (fun f => (f.length : Int)) (lexC cmpT))
theorem cmpF_cmp : Cmp cmpF := thenC_cmp (thenC_cmp (lexC_cmp cmpT_cmp))
def sgn (n : Int) : Int := if n < 0 then -1 else if n = 0 then 0 else 1
end Go.Proofs.YtfhmonacgmakbaaGreat
namespace Go.Proofs.YtfhmonacgmakbaaGreat
section
variable {α : Type} {c : α → α → Int} (hc : Cmp c)
include hc
end
def mulF (f g : List (List Int)) : List (List Int) := sortC cmpT (f ++ g)
theorem mulF_len (f g : List (List Int)) : (mulF f g).length = f.length + g.length := by unfold mulF; rw [sortC_length, List.length_append]
theorem mulF_sum (f g : List (List Int)) : sumLen (mulF f g) = sumLen f + sumLen g := by
  unfold mulF; rw [sumLen_perm (sortC_perm _)]; simp [sumLen]
def cmpN : List (List Int) → List (List Int) → Int := thenC (fun f => (f.length : Int)) (lexC cmpT)
theorem cmpN_eq (f g : List (List Int)) : cmpN f g = if (f.length : Int) = g.length then lexC cmpT f g else (f.length : Int) - g.length := rfl
theorem cmpF_N (f g : List (List Int)) : cmpF f g = if (sumLen f : Int) = sumLen g then cmpN f g else (sumLen f : Int) - sumLen g := rfl
end Go.Proofs.YtfhmonacgmakbaaGreat
namespace Go.Proofs.YtfhmonacgmakbaaGreat
def canT (t : List Int) : Bool := lev8 t && decide (canon t = t)
theorem all_range {n : Nat} {p : Nat → Bool} : (List.range n).all p = true ↔ ∀ i < n, p i = true := by
  rw [List.all_eq_true]
  exact ⟨fun h i hi => h i (List.mem_range.2 hi), fun h i hi => h i (List.mem_range.1 hi)⟩
theorem adj_pairwise {α : Type} {r : α → α → Prop} (ht : ∀ a b d, r a b → r b d → r a d) : ∀ {l : List α}, (∀ i (h : i + 1 < l.length), r l[i] l[i + 1]) → l.Pairwise r
  | [], _ => List.Pairwise.nil
  | [a], _ => List.pairwise_singleton _ _
  | a :: b :: l, h => by
    have ih := adj_pairwise ht (l := b :: l) (fun i hi => h (i + 1) (by simp at hi ⊢; omega))
    refine List.pairwise_cons.2 ⟨fun x hx => ?_, ih⟩
    have h0 : r a b := h 0 (by simp)
    rcases List.mem_cons.1 hx with rfl | hx
    · exact h0
    · exact ht a b x h0 ((List.pairwise_cons.1 ih).1 x hx)
theorem getD_at {α : Type} {l : List α} {d : α} {i : Nat} (h : i < l.length) : l.getD i d = l[i] := by
  rw [List.getD_eq_getElem?_getD, List.getElem?_eq_getElem h]; rfl
end Go.Proofs.YtfhmonacgmakbaaGreat
namespace Go.Proofs.YtfhmonacgmakbaaGreat
open Go.RowKit
end Go.Proofs.YtfhmonacgmakbaaGreat
namespace Go.Proofs.YtfhmonacgmakbaaGreat
def allTo (n : Nat) : List (List Int) := (List.range n).flatMap fun k => treesN (k + 1)
theorem allTo_succ (n : Nat) : allTo (n + 1) = allTo n ++ treesN (n + 1) := by unfold allTo; rw [List.range_succ, List.flatMap_append]; simp
theorem allTo_len : (allTo 8).length = 200 := by decide +kernel
theorem allTo_pre : ∀ (d k : Nat), ∃ r, allTo (d + k) = allTo d ++ r
  | d, 0 => ⟨[], by simp⟩
  | d, k + 1 => by
    obtain ⟨r, e⟩ := allTo_pre d k
    exact ⟨r ++ treesN (d + k + 1), by rw [← Nat.add_assoc, allTo_succ, e, List.append_assoc]⟩
theorem allTo_rise : (List.range 199).all (fun i => decide (cmpT ((allTo 8).getD i []) ((allTo 8).getD (i + 1) []) < 0)) = true := by decide +kernel
theorem trees_all : lists8.all (fun t => !decide (canon t = t) || (treesN t.length).contains t) = true := by decide +kernel
theorem canT_mem {t : List Int} (h : canT t = true) {d : Nat} (hd : t.length ≤ d) : t ∈ allTo d := by
  unfold canT at h
  rw [Bool.and_eq_true] at h
  have h1 := lev8_all trees_all h.1
  rw [h.2] at h1
  have h2 : t ∈ treesN t.length := by simpa using h1
  have hp : 0 < t.length := (lev8_lev h.1).pos
  unfold allTo
  rw [List.mem_flatMap]
  exact ⟨t.length - 1, List.mem_range.2 (by omega), by rw [Nat.sub_add_cancel hp]; exact h2⟩
def posT (t : List Int) : Nat := (allTo 8).idxOf t
theorem allTo_pair : (allTo 8).Pairwise fun a b => cmpT a b < 0 := by
  refine adj_pairwise (r := fun a b => cmpT a b < 0) (fun a b d h1 h2 => cmpT_cmp.lt_tr h1 h2) (fun i hi => ?_)
  rw [allTo_len] at hi
  have := all_range.1 allTo_rise i (by omega)
  rw [getD_at (by rw [allTo_len]; omega), getD_at (by rw [allTo_len]; omega)] at this
  exact of_decide_eq_true this
theorem pos_at {t : List Int} (h : canT t = true) {d : Nat} (hd : t.length ≤ d) (hd8 : d ≤ 8) : ∃ hi : posT t < (allTo d).length, (allTo d)[posT t] = t ∧ (∀ k (hk : k < (allTo d).length), k < posT t → cmpT (allTo d)[k] t < 0) ∧ ∀ k (hk : k < (allTo d).length), posT t ≤ k → 0 ≤ cmpT (allTo d)[k] t := by
  obtain ⟨r, e⟩ := allTo_pre d (8 - d)
  rw [Nat.add_sub_cancel' hd8] at e
  have hm := canT_mem h hd
  have hp : posT t = (allTo d).idxOf t := by
    unfold posT
    rw [e, List.idxOf_append, if_pos hm]
  have hi : posT t < (allTo d).length := by rw [hp]; exact List.idxOf_lt_length_of_mem hm
  have ht : (allTo d)[posT t] = t := by
    have : (allTo d)[(allTo d).idxOf t]'(by rw [← hp]; exact hi) = t := List.getElem_idxOf _
    simp [hp]
  have hpw : (allTo d).Pairwise fun a b => cmpT a b < 0 := by
    have := allTo_pair
    rw [e] at this
    exact (List.pairwise_append.1 this).1
  rw [List.pairwise_iff_getElem] at hpw
  refine ⟨hi, ht, fun k hk hlt => ?_, fun k hk hle => ?_⟩
  · have := hpw k (posT t) hk hi hlt
    rwa [ht] at this
  · by_cases hq : k = posT t
    · subst hq
      rw [ht, cmpT_cmp.refl]
      exact Int.le_refl _
    · have := hpw (posT t) k hi hk (by omega)
      rw [ht] at this
      have := (cmpT_cmp.anti t (allTo d)[k]).1 this
      omega
theorem mP_bd (n : Int) : 0 ≤ mP n ∧ mP n < 10007 := by unfold mP; omega
end Go.Proofs.YtfhmonacgmakbaaGreat
namespace Go.Proofs.YtfhmonacgmakbaaGreat
section
variable {κ : Type} (c : κ → κ → Int)
def putN : List (κ × Int) → Int → κ → List (κ × Int)
  | [], k, x => [(x, k)]
  | p :: L, k, x => if c x p.1 < 0 then (x, k) :: p :: L else if c x p.1 = 0 then (p.1, p.2 + k) :: L else p :: putN L k x
def expN (L : List (κ × Int)) : List κ := L.flatMap fun p => List.replicate p.2.toNat p.1
def NfN (L : List (κ × Int)) : Prop := L.Pairwise (fun p q => c p.1 q.1 < 0) ∧ ∀ q ∈ L, 1 ≤ q.2
def IsN (L : List (κ × Int)) (M : List κ) : Prop := NfN c L ∧ (expN L).Perm M
end
section
variable {κ : Type} {c : κ → κ → Int}
theorem expN_cons (p : κ × Int) (L : List (κ × Int)) : expN (p :: L) = List.replicate p.2.toNat p.1 ++ expN L := rfl
theorem expN_app (L M : List (κ × Int)) : expN (L ++ M) = expN L ++ expN M := by simp [expN]
theorem expN_mem {L : List (κ × Int)} {x : κ} (h : x ∈ expN L) : ∃ p ∈ L, p.1 = x := by
  obtain ⟨p, hp, h⟩ := List.mem_flatMap.1 h
  exact ⟨p, hp, (List.eq_of_mem_replicate h).symm⟩
theorem mem_expN {L : List (κ × Int)} {p : κ × Int} (h : p ∈ L) (h1 : 1 ≤ p.2) : p.1 ∈ expN L :=
  List.mem_flatMap.2 ⟨p, h, List.mem_replicate.2 ⟨by omega, rfl⟩⟩
theorem NfN.nil : NfN c [] := ⟨List.Pairwise.nil, fun q hq => nomatch hq⟩
theorem IsN.nil : IsN c [] [] := ⟨NfN.nil, List.Perm.refl _⟩
theorem IsN.perm {L : List (κ × Int)} {M M' : List κ} (h : IsN c L M) (hp : M.Perm M') : IsN c L M' := ⟨h.1, h.2.trans hp⟩
theorem NfN.tail {p : κ × Int} {L : List (κ × Int)} (h : NfN c (p :: L)) : NfN c L := ⟨(List.pairwise_cons.1 h.1).2, fun q hq => h.2 q (List.mem_cons_of_mem _ hq)⟩
variable (hc : Cmp c)
include hc
theorem NfN.ext : ∀ {L L' : List (κ × Int)}, NfN c L → NfN c L' → (expN L).Perm (expN L') → L = L'
  | [], [], _, _, _ => rfl
  | [], q :: L', _, h', hp => by
    have := hp.length_eq
    have h1 := h'.2 q (by simp)
    rw [expN_cons, List.length_append, List.length_replicate] at this
    simp [expN] at this; omega
  | p :: L, [], h, _, hp => by
    have := hp.length_eq
    have h1 := h.2 p (by simp)
    rw [expN_cons, List.length_append, List.length_replicate] at this
    simp [expN] at this; omega
  | p :: L, q :: L', h, h', hp => by
    have hp1 := h.2 p (by simp)
    have hq1 := h'.2 q (by simp)
    have low : ∀ {p : κ × Int} {L : List (κ × Int)}, NfN c (p :: L) → ∀ x ∈ expN (p :: L), c p.1 x ≤ 0 := fun {p L} h x hx => by
      obtain ⟨r, hr, rfl⟩ := expN_mem hx
      rcases List.mem_cons.1 hr with rfl | hr
      · rw [hc.refl]; omega
      · have := (List.pairwise_cons.1 h.1).1 r hr; omega
    have e1 := low h q.1 (hp.mem_iff.2 (mem_expN (by simp) hq1))
    have e2 := low h' p.1 (hp.mem_iff.1 (mem_expN (by simp) hp1))
    have ek : p.1 = q.1 := by
      apply hc.zero
      rcases Int.lt_or_eq_of_le e1 with e | e
      · have := (hc.anti _ _).1 e; omega
      · exact e
    have no : ∀ {p : κ × Int} {L : List (κ × Int)}, NfN c (p :: L) → p.1 ∉ expN L := fun {p L} h hx => by
      obtain ⟨r, hr, e⟩ := expN_mem hx
      have := (List.pairwise_cons.1 h.1).1 r hr
      rw [e, hc.refl] at this; omega
    have hcnt : ∀ {p : κ × Int} {L : List (κ × Int)}, NfN c (p :: L) → (expN (p :: L)).countP (fun x => decide (c p.1 x = 0)) = p.2.toNat := fun {p L} h => by
      rw [expN_cons, List.countP_append, List.countP_replicate, if_pos (by simp [hc.refl])]
      have : (expN L).countP (fun x => decide (c p.1 x = 0)) = 0 := List.countP_eq_zero.2 fun x hx => by
        have : c p.1 x ≠ 0 := fun e => no h (by rw [hc.zero _ _ e]; exact hx)
        simpa using this
      omega
    have c1 := hcnt h
    have c2 := hcnt h'
    rw [← ek, ← hp.countP_eq] at c2
    have en : p.2 = q.2 := by omega
    have epq : p = q := Prod.ext ek en
    subst epq
    rw [expN_cons, expN_cons, List.perm_append_left_iff] at hp
    rw [NfN.ext h.tail h'.tail hp]
theorem IsN.ext {L L' : List (κ × Int)} {M M' : List κ} (h : IsN c L M) (h' : IsN c L' M') (hp : M.Perm M') : L = L' :=
  NfN.ext hc h.1 h'.1 (h.2.trans (hp.trans h'.2.symm))
theorem putN_exp : ∀ (L : List (κ × Int)) (k : Int) (x : κ), (∀ q ∈ L, 1 ≤ q.2) → 1 ≤ k → (expN (putN c L k x)).Perm (expN L ++ List.replicate k.toNat x)
  | [], k, x, _, _ => by simp [putN, expN]
  | p :: L, k, x, h, hk => by
    unfold putN
    split
    · rw [expN_cons]; exact List.perm_append_comm
    · split
      · rename_i e
        rw [expN_cons, expN_cons, hc.zero _ _ e]
        have := h p (by simp)
        show (List.replicate (p.2 + k).toNat p.1 ++ expN L).Perm _
        rw [show (p.2 + k).toNat = p.2.toNat + k.toNat by omega, ← List.replicate_append_replicate, List.append_assoc, List.append_assoc]
        exact (List.perm_append_left_iff _).2 List.perm_append_comm
      · rw [expN_cons, expN_cons, List.append_assoc]
        exact (List.perm_append_left_iff _).2 (putN_exp L k x (fun q hq => h q (by simp [hq])) hk)
omit hc in
theorem putN_mem : ∀ (L : List (κ × Int)) (k : Int) (x : κ) {q : κ × Int}, q ∈ putN c L k x → q.1 = x ∨ ∃ p ∈ L, p.1 = q.1
  | [], k, x, q, h => by
    obtain rfl : q = (x, k) := by simpa [putN] using h
    exact .inl rfl
  | p :: L, k, x, q, h => by
    unfold putN at h
    split at h
    · rcases List.mem_cons.1 h with rfl | h
      · exact .inl rfl
      · exact .inr ⟨q, h, rfl⟩
    · split at h
      · rcases List.mem_cons.1 h with rfl | h
        · exact .inr ⟨p, by simp, rfl⟩
        · exact .inr ⟨q, by simp [h], rfl⟩
      · rcases List.mem_cons.1 h with rfl | h
        · exact .inr ⟨q, by simp, rfl⟩
        · rcases putN_mem L k x h with h | ⟨r, h1, h2⟩
          · exact .inl h
          · exact .inr ⟨r, by simp [h1], h2⟩
theorem putN_nf : ∀ {L : List (κ × Int)} {k : Int} {x : κ}, NfN c L → 1 ≤ k → NfN c (putN c L k x)
  | [], k, x, _, hk => ⟨by simp [putN], fun q hq => by
      have : q = (x, k) := by simpa [putN] using hq
      rw [this]; exact hk⟩
  | p :: L, k, x, h, hk => by
    have h1 := List.pairwise_cons.1 h.1
    have h2 := h.2 p (by simp)
    unfold putN
    split
    · rename_i hlt
      refine ⟨List.pairwise_cons.2 ⟨fun q hq => ?_, h.1⟩, fun q hq => ?_⟩
      · rcases List.mem_cons.1 hq with rfl | hq
        · exact hlt
        · exact hc.lt_tr hlt (h1.1 q hq)
      · rcases List.mem_cons.1 hq with rfl | hq
        · exact hk
        · exact h.2 q hq
    · split
      · refine ⟨List.pairwise_cons.2 ⟨h1.1, h1.2⟩, fun q hq => ?_⟩
        rcases List.mem_cons.1 hq with rfl | hq
        · show 1 ≤ p.2 + k; omega
        · exact h.2 q (by simp [hq])
      · rename_i n1 n2
        have ih := putN_nf (x := x) h.tail hk
        refine ⟨List.pairwise_cons.2 ⟨fun q hq => ?_, ih.1⟩, fun q hq => ?_⟩
        · rcases putN_mem L k x hq with e | ⟨r, hr, e⟩
          · rw [e, hc.anti]; omega
          · rw [← e]; exact h1.1 r hr
        · rcases List.mem_cons.1 hq with rfl | hq
          · exact h2
          · exact ih.2 q hq
theorem IsN.put {L : List (κ × Int)} {M : List κ} (h : IsN c L M) {k : Int} {x : κ} (hk : 1 ≤ k) : IsN c (putN c L k x) (M ++ List.replicate k.toNat x) :=
  ⟨putN_nf hc h.1 hk, (putN_exp hc L k x h.1.2 hk).trans ((List.perm_append_right_iff _).2 h.2)⟩
theorem IsN.puts : ∀ (P : List (κ × Int)) {L : List (κ × Int)} {M : List κ}, IsN c L M → (∀ p ∈ P, 1 ≤ p.2) → IsN c (P.foldl (fun s p => putN c s p.2 p.1) L) (M ++ expN P)
  | [], L, M, h, _ => by simpa [expN] using h
  | p :: P, L, M, h, hp => by
    have := IsN.puts P (h.put hc (hp p (by simp)) (x := p.1)) (fun q hq => hp q (by simp [hq]))
    rw [expN_cons, ← List.append_assoc]
    exact this
omit hc in
theorem rep_flat {β γ : Type} (n : Nat) (L : List β) (f : β → List γ) : ((List.replicate n L).flatten.flatMap f).Perm (L.flatMap fun b => (List.replicate n (f b)).flatten) := by
  induction L with
  | nil => simp
  | cons b L ih =>
    have key : ∀ n, ((List.replicate n (b :: L)).flatten.flatMap f).Perm ((List.replicate n (f b)).flatten ++ (List.replicate n L).flatten.flatMap f) := by
      intro n
      induction n with
      | zero => simp
      | succ n ih2 =>
        rw [List.replicate_succ, List.flatten_cons, List.flatMap_append, List.flatMap_cons, List.replicate_succ, List.flatten_cons, List.replicate_succ, List.flatten_cons, List.flatMap_append]
        refine ((List.perm_append_left_iff _).2 ih2).trans ?_
        rw [List.append_assoc, List.append_assoc]
        refine (List.perm_append_left_iff _).2 ?_
        rw [← List.append_assoc, ← List.append_assoc]
        exact (List.perm_append_right_iff _).2 List.perm_append_comm
    refine (key n).trans ?_
    rw [List.flatMap_cons]
    exact (List.perm_append_left_iff _).2 ih
omit hc in
theorem rep_map {β γ : Type} (n m : Nat) (a : β) (f : β → γ) : (List.replicate n (List.replicate m (f a))).flatten = List.replicate (n * m) (f a) := by
  induction n with
  | zero => simp
  | succ n ih => rw [List.replicate_succ, List.flatten_cons, ih, Nat.succ_mul, Nat.add_comm (n * m), List.replicate_append_replicate]
omit hc in
theorem exp_prod {α β : Type} (f : α → β → κ) (B : List (β × Int)) (hB : ∀ q ∈ B, 1 ≤ q.2) : ∀ (A : List (α × Int)), (∀ p ∈ A, 1 ≤ p.2) →
    (expN (A.flatMap fun a => B.map fun b => (f a.1 b.1, a.2 * b.2))).Perm ((expN A).flatMap fun a => (expN B).map (f a))
  | [], _ => by simp [expN]
  | a :: A, hA => by
    have ih := exp_prod f B hB A (fun p hp => hA p (by simp [hp]))
    have ha := hA a (by simp)
    rw [List.flatMap_cons, expN_app, expN_cons, List.flatMap_append]
    refine List.Perm.append ?_ ih
    have e1 : (List.replicate a.2.toNat a.1).flatMap (fun x => (expN B).map (f x)) = ((List.replicate a.2.toNat (expN B)).flatten).flatMap (fun b => [f a.1 b]) := by
      rw [List.flatMap_replicate]
      generalize a.2.toNat = n
      induction n with
      | zero => simp
      | succ n ih => rw [List.replicate_succ, List.flatten_cons, List.replicate_succ, List.flatten_cons, List.flatMap_append, ← ih]; congr 1; simp [List.map_eq_flatMap]
    rw [e1]
    refine List.Perm.symm ((rep_flat _ _ _).trans ?_)
    clear ih e1
    have e2 : ∀ (B : List (β × Int)), (∀ q ∈ B, 1 ≤ q.2) → ((expN B).flatMap fun b => (List.replicate a.2.toNat [f a.1 b]).flatten) = expN (B.map fun b => (f a.1 b.1, a.2 * b.2)) := by
      intro B
      induction B with
      | nil => intro _; rfl
      | cons b B ih =>
        intro hB
        rw [expN_cons, List.flatMap_append, ih (fun q hq => hB q (by simp [hq])), List.map_cons, expN_cons]
        congr 1
        have hb := hB b (by simp)
        rw [List.flatMap_replicate]
        have : (List.replicate a.2.toNat [f a.1 b.1]).flatten = List.replicate a.2.toNat (f a.1 b.1) := by simp
        rw [this, rep_map (a := b.1) (f := fun y => f a.1 y)]
        congr 1
        rw [Int.toNat_mul (by omega) (by omega), Nat.mul_comm]
    rw [e2 B hB]
omit hc in
theorem flat_left {α β : Type} {f g : α → List β} : ∀ (l : List α), (∀ a ∈ l, (f a).Perm (g a)) → (l.flatMap f).Perm (l.flatMap g)
  | [], _ => .refl _
  | a :: l, h => by
    rw [List.flatMap_cons, List.flatMap_cons]
    exact (h a (by simp)).append (flat_left l fun b hb => h b (by simp [hb]))
omit hc in
theorem perm_prod {α β γ : Type} {A A' : List α} {B B' : List β} (f : α → β → γ) (h1 : A.Perm A') (h2 : B.Perm B') : (A.flatMap fun a => B.map (f a)).Perm (A'.flatMap fun a => B'.map (f a)) :=
  (h1.flatMap_right _).trans (flat_left _ fun a _ => h2.map (f a))
def timesN {κ : Type} (c : κ → κ → Int) (f : κ → κ → κ) (A B : List (κ × Int)) : List (κ × Int) :=
  (A.flatMap fun a => B.map fun b => (f a.1 b.1, a.2 * b.2)).foldl (fun s p => putN c s p.2 p.1) []
theorem IsN.times (f : κ → κ → κ) {A B : List (κ × Int)} {M N : List κ} (hA : IsN c A M) (hB : IsN c B N) : IsN c (timesN c f A B) (M.flatMap fun a => N.map (f a)) := by
  have h := IsN.puts hc (A.flatMap fun a => B.map fun b => (f a.1 b.1, a.2 * b.2)) (IsN.nil (c := c)) (fun p hp => by
    obtain ⟨a, ha, hp⟩ := List.mem_flatMap.1 hp
    obtain ⟨b, hb, rfl⟩ := List.mem_map.1 hp
    have h1 := hA.1.2 a ha
    have h2 := hB.1.2 b hb
    exact Int.mul_pos h1 h2)
  rw [List.nil_append] at h
  exact h.perm ((exp_prod f B hB.1.2 A hA.1.2).trans (perm_prod f hA.2 hB.2))
omit hc
theorem putN_skip {k : Int} {x : κ} (M : List (κ × Int)) : ∀ {L : List (κ × Int)}, (∀ q ∈ L, 0 < c x q.1) → putN c (L ++ M) k x = L ++ putN c M k x
  | [], _ => rfl
  | p :: L, h => by
    have h1 := h p (by simp)
    rw [List.cons_append]
    conv => lhs; unfold putN
    rw [if_neg (by omega), if_neg (by omega), putN_skip M (fun q hq => h q (by simp [hq]))]
    rfl
theorem IsN.cnt {L : List (κ × Int)} {M : List κ} (h : IsN c L M) : ∀ p ∈ L, 1 ≤ p.2 ∧ p.2 ≤ M.length := fun p hp => by
  have h1 := h.1.2 p hp
  refine ⟨h1, ?_⟩
  have hl := h.2.length_eq
  obtain ⟨s, t, rfl⟩ := List.append_of_mem hp
  rw [expN_app, expN_cons, List.length_append, List.length_append, List.length_replicate] at hl
  omega
theorem IsN.len {L : List (κ × Int)} {M : List κ} (h : IsN c L M) : L.length ≤ M.length := by
  rw [← h.2.length_eq]
  have key : ∀ (L : List (κ × Int)), (∀ p ∈ L, 1 ≤ p.2) → L.length ≤ (expN L).length := by
    intro L
    induction L with
    | nil => intro _; exact Nat.le_refl _
    | cons p L ih =>
      intro hp
      have h1 := hp p (by simp)
      have h2 := ih (fun q hq => hp q (by simp [hq]))
      rw [expN_cons, List.length_append, List.length_replicate, List.length_cons]; omega
  exact key L h.1.2
theorem IsN.key {L : List (κ × Int)} {M : List κ} (h : IsN c L M) : ∀ p ∈ L, p.1 ∈ M := fun p hp => h.2.mem_iff.1 (mem_expN hp (h.1.2 p hp))
def stepN (c : κ → κ → Int) (out : List (κ × Int)) (x : κ) : List (κ × Int) := match out.getLast? with
  | some p => if c p.1 x = 0 then out.dropLast ++ [(p.1, p.2 + 1)] else out ++ [(x, 1)]
  | none => [(x, 1)]
def runsN (c : κ → κ → Int) (M : List κ) : List (κ × Int) := M.foldl (stepN c) []
theorem stepN_eq {c : κ → κ → Int} (out : List (κ × Int)) (p : κ × Int) (x : κ) (h : c p.1 x = 0) : stepN c (out ++ [p]) x = out ++ [(p.1, p.2 + 1)] := by simp [stepN, h]
theorem stepN_ne {c : κ → κ → Int} (out : List (κ × Int)) (p : κ × Int) (x : κ) (h : ¬ c p.1 x = 0) : stepN c (out ++ [p]) x = out ++ [p] ++ [(x, 1)] := by simp [stepN, h]
theorem runsN_snoc (c : κ → κ → Int) (M : List κ) (x : κ) : runsN c (M ++ [x]) = stepN c (runsN c M) x := by unfold runsN; rw [List.foldl_append]; rfl
theorem snocN {α : Type} {l : List α} (h : l ≠ []) : ∃ p z, l = p ++ [z] := ⟨l.dropLast, l.getLast h, (List.dropLast_concat_getLast h).symm⟩
include hc
theorem runsN_is : ∀ (n : Nat) (M : List κ), M.length = n → M.Pairwise (fun a b => c a b ≤ 0) → IsN c (runsN c M) M
  | 0, M, hn, _ => by
    obtain rfl := List.eq_nil_of_length_eq_zero hn
    exact IsN.nil
  | n + 1, M, hn, hM => by
    obtain ⟨M, x, rfl⟩ := snocN (l := M) (by rintro rfl; cases hn)
    rw [List.pairwise_append] at hM
    have ih := runsN_is n M (by simpa using hn) hM.1
    have hx : ∀ a ∈ M, c a x ≤ 0 := fun a ha => hM.2.2 a ha x (by simp)
    rw [runsN_snoc]
    by_cases h0 : runsN c M = []
    · rw [h0] at ih ⊢
      obtain rfl : M = [] := List.nil_perm.1 ih.2
      exact ⟨⟨by simp [stepN], fun q hq => by
        have : q = (x, 1) := by simpa [stepN] using hq
        rw [this]; exact Int.le_refl _⟩, by simp [stepN, expN]⟩
    · obtain ⟨out, p, e⟩ := snocN h0
      rw [e] at ih ⊢
      obtain ⟨⟨i1, i2⟩, i3⟩ := ih
      rw [List.pairwise_append] at i1
      have hp1 := i2 p (by simp)
      have hpx := hx p.1 (i3.mem_iff.1 (mem_expN (by simp) hp1))
      by_cases hq : c p.1 x = 0
      · rw [stepN_eq _ _ _ hq]
        refine ⟨⟨List.pairwise_append.2 ⟨i1.1, by simp, fun a ha b hb => ?_⟩, fun q hq => ?_⟩, ?_⟩
        · obtain rfl := List.mem_singleton.1 hb
          exact i1.2.2 a ha p (by simp)
        · rcases List.mem_append.1 hq with hq | hq
          · exact i2 q (by simp [hq])
          · obtain rfl := List.mem_singleton.1 hq
            show 1 ≤ p.2 + 1; omega
        · obtain rfl := hc.zero _ _ hq
          rw [expN_app] at i3 ⊢
          have : expN [(p.1, p.2 + 1)] = expN [p] ++ [p.1] := by
            show List.replicate (p.2 + 1).toNat p.1 ++ [] = (List.replicate p.2.toNat p.1 ++ []) ++ [p.1]
            rw [show (p.2 + 1).toNat = p.2.toNat + 1 by omega, List.replicate_succ']; simp
          rw [this, ← List.append_assoc]
          exact (List.perm_append_right_iff _).2 i3
      · rw [stepN_ne _ _ _ hq]
        refine ⟨⟨List.pairwise_append.2 ⟨List.pairwise_append.2 i1, by simp, fun a ha b hb => ?_⟩, fun q hq => ?_⟩, ?_⟩
        · obtain rfl := List.mem_singleton.1 hb
          show c a.1 x < 0
          have hpx' : c p.1 x < 0 := by omega
          rcases List.mem_append.1 ha with ha | ha
          · exact hc.lt_tr (i1.2.2 a ha p (by simp)) hpx'
          · obtain rfl := List.mem_singleton.1 ha
            exact hpx'
        · rcases List.mem_append.1 hq with hq | hq
          · exact i2 q hq
          · obtain rfl := List.mem_singleton.1 hq
            exact Int.le_refl _
        · rw [expN_app]
          exact (List.perm_append_right_iff _).2 i3
theorem runsN_sorted {S M : List κ} (hp : S.Perm M) (hs : S.Pairwise (fun a b => c a b ≤ 0)) : IsN c (runsN c S) M := (runsN_is hc _ S rfl hs).perm hp
end
end Go.Proofs.YtfhmonacgmakbaaGreat

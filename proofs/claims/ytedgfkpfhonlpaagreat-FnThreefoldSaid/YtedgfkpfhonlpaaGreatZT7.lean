/- Lemmas (7). -/
import Derived.BigQuiet
import Derived.Test.YtedgfkpfhonlpaaGreatZT1
import Derived.Test.YtedgfkpfhonlpaaGreatZT5
import Derived.Test.YtedgfkpfhonlpaaGreatZT6
set_option maxHeartbeats 16000000
set_option maxRecDepth 100000
set_option linter.unusedSimpArgs false
set_option linter.unusedVariables false
namespace Go.Proofs.YtedgfkpfhonlpaaGreat
open Go.RowKit
theorem Yp{a b:Prop}(x:a)(y:b):a∧b:=⟨x,y⟩
theorem Zi:type_of% (Yp @if_true.{1} @if_false.{1}):=(Yp @if_true.{1} @if_false.{1})
theorem gz{p:Prop}(h:p:=by (simp only [List.length_cons,List.length_nil];decide)):p:=h
theorem telT_none (s:St) (u:List Nat):telT s u Option.none = Option.none:=rfl
theorem Zg:type_of% (Yp (Yp (Yp (Yp (Yp (Yp (Yp @arun.eq_1 (Yp @arun.eq_2 @astep.eq_def)) (Yp (Yp @anew.eq_def @amut.eq_def) (Yp @isMut.eq_def @jQ.eq_def))) (Yp (Yp @avG.eq_def (Yp @Bool.true_beq @Bool.false_beq)) (Yp (Yp @beq_true @beq_false) (Yp @dstOK.eq_def @cfg.eq_def)))) (Yp (Yp (Yp @opv.eq_def (Yp @noJunk.eq_def @constAV.eq_def)) (Yp (Yp @look_eq @lookB.eq_1) (Yp @lookB.eq_2 @insR_eq))) (Yp (Yp @insB.eq_1 (Yp @insB.eq_2 @cond_true.{1})) (Yp (Yp @cond_false.{1} @jI.eq_def) (Yp @List.foldr_cons.{0,0} @List.foldr_nil.{0,0}))))) (Yp (Yp (Yp (Yp @Option.bind_some.{0,0} (Yp @Option.map_some.{0,0} @Option.bind_none.{0,0})) (Yp (Yp @Option.map_none.{0,0} @Option.getD_some.{0}) (Yp @Option.getD_none.{0} @Bool.false_eq_true))) (Yp (Yp @decide_true (Yp @decide_false @slT.eq_def)) (Yp (Yp @tyT.eq_def (Yp @tyT2.eq_def (Yp @tyT3.eq_def @slT2.eq_def))) (Yp @fsT.eq_def @avD.eq_def)))) (Yp (Yp (Yp @avI.eq_def (Yp @avB.eq_def @dval.eq_def)) (Yp (Yp @un_int @un_bool) (Yp @un_raw @un_sl))) (Yp (Yp (Yp @un_tag @avun_val) (Yp @avun_nil @avun_own)) (Yp (Yp @avun_view @abin.eq_def) (Yp @aun.eq_def @alen.eq_def)))))) (Yp (Yp (Yp (Yp (Yp @aindex.eq_def (Yp @aslice.eq_def @afield.eq_def)) (Yp (Yp @kZ.eq_def @aload.eq_def) (Yp @yS.eq_def @zAC.eq_def))) (Yp (Yp @afill.eq_1 (Yp @afill.eq_2 @yI.eq_1)) (Yp (Yp @yI.eq_2 @mkObj.eq_def) (Yp @rowsD.eq_1 @rowsD.eq_2)))) (Yp (Yp (Yp @yZ.eq_1 (Yp @yZ.eq_2 @yZ.eq_3)) (Yp (Yp @cellD_vsl @cellD_vtag) (Yp @cellD_vint @cellD_vbool))) (Yp (Yp @cellD_vraw (Yp @cellD_nilsl @cellD_own)) (Yp (Yp @cellD_view @cellD_junk) (Yp @fresh.eq_def @abase.eq_def))))) (Yp (Yp (Yp (Yp @aelems.eq_def (Yp @qZ0.eq_def @jG.eq_1)) (Yp (Yp @jG.eq_2 @jG.eq_3) (Yp @absorb.eq_def @kC.eq_1))) (Yp (Yp @kC.eq_2 (Yp @drop_eq @dropB.eq_1)) (Yp (Yp @dropB.eq_2 @killR.eq_def) (Yp @AC.kill.eq_def @AV.kill.eq_def)))) (Yp (Yp (Yp @AV.refs.eq_def (Yp @AC.refs.eq_def @Obj.refs.eq_def)) (Yp (Yp @List.map_cons.{0,0} @List.map_nil.{0,0}) (Yp @List.all_cons.{0} @List.all_nil.{0}))) (Yp (Yp (Yp @List.flatMap_cons.{0,0} @List.flatMap_nil.{0,0}) (Yp @List.contains_nil.{0} @List.contains_cons.{0})) (Yp (Yp @List.append_nil.{0} @List.nil_append.{0}) (Yp @List.cons_append.{0} @Bool.and_true))))))) (Yp (Yp (Yp (Yp (Yp (Yp @Bool.true_and (Yp @Bool.not_true @Bool.not_false)) (Yp (Yp @Bool.and_self @Option.isNone_none.{0}) (Yp @Option.isNone_some.{0} @List.length_cons.{0}))) (Yp (Yp @List.length_nil.{0} (Yp @List.toList_toArray.{0} @List.getElem?_toArray.{0})) (Yp (Yp @qD.eq_def @List.take_succ_cons.{0}) (Yp @List.drop_succ_cons.{0} @List.take_zero.{0})))) (Yp (Yp (Yp @List.drop_zero.{0} (Yp @List.take_nil.{0} @List.drop_nil.{0})) (Yp (Yp @Nat.zero_add @Nat.add_zero) (Yp @and_self @true_and))) (Yp (Yp @and_true (Yp @List.getElem?_cons_zero.{0} @List.getElem?_cons_succ.{0})) (Yp (Yp @List.getElem?_nil.{0} @beq_self_eq_true.{0}) (Yp @Bool.or_false @Bool.false_or))))) (Yp (Yp (Yp (Yp @Bool.or_true (Yp @Bool.true_or @putR.eq_def)) (Yp (Yp @bne_self_eq_false.{0} @Bool.and_false) (Yp @Bool.false_and @id_eq.{1}))) (Yp (Yp @Obj.k.eq_def (Yp @Obj.len.eq_def @Obj.deep.eq_def)) (Yp (Yp @List.getElem?_cons.{0} @List.set_cons_zero.{0}) (Yp @List.set_cons_succ.{0} @List.length_set.{0})))) (Yp (Yp (Yp @aopsT.eq_1 (Yp @aopsT.eq_2 @astepT.eq_def)) (Yp (Yp @isCall.eq_def @kK.eq_def) (Yp @arg1.eq_def @argV_raw))) (Yp (Yp (Yp @argV_nil @argV_own) (Yp @argV_view @argV_agg)) (Yp (Yp @argV_sl @argV_int) (Yp @argV_bool @argV_tag)))))) (Yp (Yp (Yp (Yp (Yp (Yp (Yp @isOwn.eq_def @isPin.eq_def) (Yp (Yp @callP.eq_def @pinE_pin) (Yp @putP_some @Tab.pin.eq_def))) (Yp @callE.eq_def @ownKey.eq_def)) (Yp (Yp @rowE_row @qI0) (Yp @qD0 @Tab.own.eq_def))) (Yp (Yp @Tab.at'.eq_def (Yp @atArgs_eq @Option.isSome_some.{0})) (Yp (Yp @Option.isSome_none.{0} @gotT_some) (Yp @gotF_some @gotF_none)))) (Yp (Yp (Yp @jI0 (Yp @St.frzs.eq_1 @St.frzs.eq_2)) (Yp (Yp @St.frz.eq_def @AC.frz.eq_def) (Yp @AV.frz.eq_def @Obj.frz.eq_def))) (Yp (Yp (Yp @frzR.eq_1 @frzR.eq_2) (Yp @frzH.eq_1 @frzH.eq_2)) (Yp (Yp @telT_some @List.size_toArray.{0}) (Yp @aargs.eq_1 @aargs.eq_2))))) (Yp (Yp (Yp (Yp @aargs.eq_3 (Yp @argAV.eq_def @jW.eq_1)) (Yp (Yp @jW.eq_2 @jW.eq_3) (Yp @xZ.eq_def @fnId.eq_def))) (Yp (Yp @opRefs_nil (Yp @opRefs_cons @St.got.eq_def)) (Yp (Yp @qZ.eq_1 @qZ.eq_2) (Yp @resAC.eq_def @outAV.eq_def)))) (Yp (Yp (Yp @Res.scalar.eq_def (Yp @isSl.eq_def @Tab.add.eq_def)) (Yp (Yp @Tab.none.eq_def @tab1.eq_def) (Yp @tab2.eq_def @tab3.eq_def))) (Yp (Yp (Yp @codL_d @vY) (Yp @codI_d @codB_d)) (Yp (Yp @codCts_d @List.isEmpty_nil.{0}) (Yp @List.isEmpty_cons.{0} @List.append_eq.{0})))))))):=(Yp (Yp (Yp (Yp (Yp (Yp (Yp @arun.eq_1 (Yp @arun.eq_2 @astep.eq_def)) (Yp (Yp @anew.eq_def @amut.eq_def) (Yp @isMut.eq_def @jQ.eq_def))) (Yp (Yp @avG.eq_def (Yp @Bool.true_beq @Bool.false_beq)) (Yp (Yp @beq_true @beq_false) (Yp @dstOK.eq_def @cfg.eq_def)))) (Yp (Yp (Yp @opv.eq_def (Yp @noJunk.eq_def @constAV.eq_def)) (Yp (Yp @look_eq @lookB.eq_1) (Yp @lookB.eq_2 @insR_eq))) (Yp (Yp @insB.eq_1 (Yp @insB.eq_2 @cond_true.{1})) (Yp (Yp @cond_false.{1} @jI.eq_def) (Yp @List.foldr_cons.{0,0} @List.foldr_nil.{0,0}))))) (Yp (Yp (Yp (Yp @Option.bind_some.{0,0} (Yp @Option.map_some.{0,0} @Option.bind_none.{0,0})) (Yp (Yp @Option.map_none.{0,0} @Option.getD_some.{0}) (Yp @Option.getD_none.{0} @Bool.false_eq_true))) (Yp (Yp @decide_true (Yp @decide_false @slT.eq_def)) (Yp (Yp @tyT.eq_def (Yp @tyT2.eq_def (Yp @tyT3.eq_def @slT2.eq_def))) (Yp @fsT.eq_def @avD.eq_def)))) (Yp (Yp (Yp @avI.eq_def (Yp @avB.eq_def @dval.eq_def)) (Yp (Yp @un_int @un_bool) (Yp @un_raw @un_sl))) (Yp (Yp (Yp @un_tag @avun_val) (Yp @avun_nil @avun_own)) (Yp (Yp @avun_view @abin.eq_def) (Yp @aun.eq_def @alen.eq_def)))))) (Yp (Yp (Yp (Yp (Yp @aindex.eq_def (Yp @aslice.eq_def @afield.eq_def)) (Yp (Yp @kZ.eq_def @aload.eq_def) (Yp @yS.eq_def @zAC.eq_def))) (Yp (Yp @afill.eq_1 (Yp @afill.eq_2 @yI.eq_1)) (Yp (Yp @yI.eq_2 @mkObj.eq_def) (Yp @rowsD.eq_1 @rowsD.eq_2)))) (Yp (Yp (Yp @yZ.eq_1 (Yp @yZ.eq_2 @yZ.eq_3)) (Yp (Yp @cellD_vsl @cellD_vtag) (Yp @cellD_vint @cellD_vbool))) (Yp (Yp @cellD_vraw (Yp @cellD_nilsl @cellD_own)) (Yp (Yp @cellD_view @cellD_junk) (Yp @fresh.eq_def @abase.eq_def))))) (Yp (Yp (Yp (Yp @aelems.eq_def (Yp @qZ0.eq_def @jG.eq_1)) (Yp (Yp @jG.eq_2 @jG.eq_3) (Yp @absorb.eq_def @kC.eq_1))) (Yp (Yp @kC.eq_2 (Yp @drop_eq @dropB.eq_1)) (Yp (Yp @dropB.eq_2 @killR.eq_def) (Yp @AC.kill.eq_def @AV.kill.eq_def)))) (Yp (Yp (Yp @AV.refs.eq_def (Yp @AC.refs.eq_def @Obj.refs.eq_def)) (Yp (Yp @List.map_cons.{0,0} @List.map_nil.{0,0}) (Yp @List.all_cons.{0} @List.all_nil.{0}))) (Yp (Yp (Yp @List.flatMap_cons.{0,0} @List.flatMap_nil.{0,0}) (Yp @List.contains_nil.{0} @List.contains_cons.{0})) (Yp (Yp @List.append_nil.{0} @List.nil_append.{0}) (Yp @List.cons_append.{0} @Bool.and_true))))))) (Yp (Yp (Yp (Yp (Yp (Yp @Bool.true_and (Yp @Bool.not_true @Bool.not_false)) (Yp (Yp @Bool.and_self @Option.isNone_none.{0}) (Yp @Option.isNone_some.{0} @List.length_cons.{0}))) (Yp (Yp @List.length_nil.{0} (Yp @List.toList_toArray.{0} @List.getElem?_toArray.{0})) (Yp (Yp @qD.eq_def @List.take_succ_cons.{0}) (Yp @List.drop_succ_cons.{0} @List.take_zero.{0})))) (Yp (Yp (Yp @List.drop_zero.{0} (Yp @List.take_nil.{0} @List.drop_nil.{0})) (Yp (Yp @Nat.zero_add @Nat.add_zero) (Yp @and_self @true_and))) (Yp (Yp @and_true (Yp @List.getElem?_cons_zero.{0} @List.getElem?_cons_succ.{0})) (Yp (Yp @List.getElem?_nil.{0} @beq_self_eq_true.{0}) (Yp @Bool.or_false @Bool.false_or))))) (Yp (Yp (Yp (Yp @Bool.or_true (Yp @Bool.true_or @putR.eq_def)) (Yp (Yp @bne_self_eq_false.{0} @Bool.and_false) (Yp @Bool.false_and @id_eq.{1}))) (Yp (Yp @Obj.k.eq_def (Yp @Obj.len.eq_def @Obj.deep.eq_def)) (Yp (Yp @List.getElem?_cons.{0} @List.set_cons_zero.{0}) (Yp @List.set_cons_succ.{0} @List.length_set.{0})))) (Yp (Yp (Yp @aopsT.eq_1 (Yp @aopsT.eq_2 @astepT.eq_def)) (Yp (Yp @isCall.eq_def @kK.eq_def) (Yp @arg1.eq_def @argV_raw))) (Yp (Yp (Yp @argV_nil @argV_own) (Yp @argV_view @argV_agg)) (Yp (Yp @argV_sl @argV_int) (Yp @argV_bool @argV_tag)))))) (Yp (Yp (Yp (Yp (Yp (Yp (Yp @isOwn.eq_def @isPin.eq_def) (Yp (Yp @callP.eq_def @pinE_pin) (Yp @putP_some @Tab.pin.eq_def))) (Yp @callE.eq_def @ownKey.eq_def)) (Yp (Yp @rowE_row @qI0) (Yp @qD0 @Tab.own.eq_def))) (Yp (Yp @Tab.at'.eq_def (Yp @atArgs_eq @Option.isSome_some.{0})) (Yp (Yp @Option.isSome_none.{0} @gotT_some) (Yp @gotF_some @gotF_none)))) (Yp (Yp (Yp @jI0 (Yp @St.frzs.eq_1 @St.frzs.eq_2)) (Yp (Yp @St.frz.eq_def @AC.frz.eq_def) (Yp @AV.frz.eq_def @Obj.frz.eq_def))) (Yp (Yp (Yp @frzR.eq_1 @frzR.eq_2) (Yp @frzH.eq_1 @frzH.eq_2)) (Yp (Yp @telT_some @List.size_toArray.{0}) (Yp @aargs.eq_1 @aargs.eq_2))))) (Yp (Yp (Yp (Yp @aargs.eq_3 (Yp @argAV.eq_def @jW.eq_1)) (Yp (Yp @jW.eq_2 @jW.eq_3) (Yp @xZ.eq_def @fnId.eq_def))) (Yp (Yp @opRefs_nil (Yp @opRefs_cons @St.got.eq_def)) (Yp (Yp @qZ.eq_1 @qZ.eq_2) (Yp @resAC.eq_def @outAV.eq_def)))) (Yp (Yp (Yp @Res.scalar.eq_def (Yp @isSl.eq_def @Tab.add.eq_def)) (Yp (Yp @Tab.none.eq_def @tab1.eq_def) (Yp @tab2.eq_def @tab3.eq_def))) (Yp (Yp (Yp @codL_d @vY) (Yp @codI_d @codB_d)) (Yp (Yp @codCts_d @List.isEmpty_nil.{0}) (Yp @List.isEmpty_cons.{0} @List.append_eq.{0}))))))))
theorem Zd:type_of% (Yp @telT_none (Yp (Yp (Yp (Yp @dregT_mk (Yp @drunT.eq_1 @drunT.eq_2)) (Yp @devalT.eq_def (Yp @deval.eq_def @St.add.eq_def))) (Yp (Yp @opnd_move (Yp @opnd_assign @opnd_load)) (Yp (Yp @opnd_box @opnd_alloc) (Yp @opnd_unOp @opnd_convert)))) (Yp (Yp (Yp @opnd_field (Yp @opnd_extract @opnd_index)) (Yp @opnd_make (Yp @opnd_bin @opnd_pick))) (Yp (Yp @opnd_build (Yp @yI0 @opnd_slice)) (Yp (Yp @opnd_call @opnd_bcall) (Yp @Option.toList_some.{0} @Option.toList_none.{0})))))):=(Yp @telT_none (Yp (Yp (Yp (Yp @dregT_mk (Yp @drunT.eq_1 @drunT.eq_2)) (Yp @devalT.eq_def (Yp @deval.eq_def @St.add.eq_def))) (Yp (Yp @opnd_move (Yp @opnd_assign @opnd_load)) (Yp (Yp @opnd_box @opnd_alloc) (Yp @opnd_unOp @opnd_convert)))) (Yp (Yp (Yp @opnd_field (Yp @opnd_extract @opnd_index)) (Yp @opnd_make (Yp @opnd_bin @opnd_pick))) (Yp (Yp @opnd_build (Yp @yI0 @opnd_slice)) (Yp (Yp @opnd_call @opnd_bcall) (Yp @Option.toList_some.{0} @Option.toList_none.{0}))))))
theorem Zu:type_of% (Yp (Yp @cutR.eq_1 @cutR.eq_2) (Yp @cond_true.{1} @cond_false.{1})):=(Yp (Yp @cutR.eq_1 @cutR.eq_2) (Yp @cond_true.{1} @cond_false.{1}))
theorem Zz:type_of% (Yp (Yp (Yp @look_eq @lookB.eq_1) (Yp @lookB.eq_2 (Yp @cond_true.{1} @cond_false.{1}))) (Yp (Yp @List.length_append.{0} (Yp @List.length_map.{0,0} @List.length_cons.{0})) (Yp @List.length_nil.{0} (Yp @Nat.zero_add @List.length_set.{0})))):=(Yp (Yp (Yp @look_eq @lookB.eq_1) (Yp @lookB.eq_2 (Yp @cond_true.{1} @cond_false.{1}))) (Yp (Yp @List.length_append.{0} (Yp @List.length_map.{0,0} @List.length_cons.{0})) (Yp @List.length_nil.{0} (Yp @Nat.zero_add @List.length_set.{0}))))
theorem Zv:type_of% (Yp (Yp @List.map_append.{0,0} (Yp @List.map_cons.{0,0} @List.map_nil.{0,0})) (Yp (Yp @List.append_assoc.{0} @List.cons_append.{0}) (Yp @List.nil_append.{0} @List.append_nil.{0}))):=(Yp (Yp @List.map_append.{0,0} (Yp @List.map_cons.{0,0} @List.map_nil.{0,0})) (Yp (Yp @List.append_assoc.{0} @List.cons_append.{0}) (Yp @List.nil_append.{0} @List.append_nil.{0})))
theorem Zk:type_of% (Yp (Yp (Yp @Tel.sh.eq_def @List.map_cons.{0,0}) (Yp @List.map_nil.{0,0} (Yp @AV.refs.eq_def @AC.refs.eq_def))) (Yp (Yp @List.flatMap_cons.{0,0} @List.flatMap_nil.{0,0}) (Yp @List.append_nil.{0} (Yp @List.nil_append.{0} @Obj.refs.eq_def)))):=(Yp (Yp (Yp @Tel.sh.eq_def @List.map_cons.{0,0}) (Yp @List.map_nil.{0,0} (Yp @AV.refs.eq_def @AC.refs.eq_def))) (Yp (Yp @List.flatMap_cons.{0,0} @List.flatMap_nil.{0,0}) (Yp @List.append_nil.{0} (Yp @List.nil_append.{0} @Obj.refs.eq_def))))
theorem QO{P:Program}{cfg:Cfg}{M:Nat → Prop}{fs:List Fr}{Q:Exit → St → Prop}{s:St}{i j:Nat} (h:outK P cfg M fs Q (.exit j) s) (hij:decide (j = i) = false := by with_unfolding_all rfl) : outK P cfg M (.blk i :: fs) Q (.exit j) s := outK.blkO hij h
theorem QV{P:Program}{cfg:Cfg}{M:Nat → Prop}{fs:List Fr}{Q:Exit → St → Prop}(k:Nat){x y:Code}{l:List (Nat × AV)}{H:List (Nat × Obj)}{rs:List (Nat × AV)} (h:qQ P cfg M x fs Q ⟨l,H⟩) (e:cutR k rs = l := by (simp only [Zu,Nat.reduceSub,Nat.reduceBEq];with_reducible rfl)) : qQ P cfg M (bif true then x else y) fs Q ⟨rs,H⟩ := qQ.wT k e h
theorem QY{P:Program}{cfg:Cfg}{M:Nat → Prop}{fs:List Fr}{Q:Exit → St → Prop}(k:Nat){x y:Code}{l:List (Nat × AV)}{H:List (Nat × Obj)}{rs:List (Nat × AV)} (h:qQ P cfg M y fs Q ⟨l,H⟩) (e:cutR k rs = l := by (simp only [Zu,Nat.reduceSub,Nat.reduceBEq];with_reducible rfl)) : qQ P cfg M (bif false then x else y) fs Q ⟨rs,H⟩ := qQ.wF k e h
theorem Ze:type_of% (Yp (Yp @jT.eq_1 @jT.eq_2) (Yp @jT.eq_3 @ares.eq_def)):=(Yp (Yp @jT.eq_1 @jT.eq_2) (Yp @jT.eq_3 @ares.eq_def))
theorem Q1:type_of% @qQ.seq:=@qQ.seq
theorem Q2:type_of% @qQ.next:=@qQ.next
theorem Q3:type_of% @qQ.skip:=@qQ.skip
theorem Q4:type_of% @qQ.exit:=@qQ.exit
theorem Q5:type_of% @qQ.ret:=@qQ.ret
theorem Q6:type_of% @qQ.label:=@qQ.label
theorem Q7:type_of% @outK.blkN:=@outK.blkN
theorem Q8:type_of% @outK.blkX:=@outK.blkX
theorem Q9:type_of% @outK.seqX:=@outK.seqX
theorem Qa:type_of% @outK.seqR:=@outK.seqR
theorem Qb:type_of% @outK.blkR:=@outK.blkR
theorem Qc:type_of% @qQ.blockS:=@qQ.blockS
theorem Qd:type_of% @qQ.blockR:=@qQ.blockR
theorem Qe:type_of% @qQ.blockC:=@qQ.blockC
theorem Qf:type_of% @qQ.blockB:=@qQ.blockB
theorem Qo:type_of% @outK.blkO:=@outK.blkO
theorem QT:type_of% @qQ.wT:=@qQ.wT
theorem QF:type_of% @qQ.wF:=@qQ.wF
theorem QS:type_of% @qQ.wS:=@qQ.wS
theorem QC:type_of% @qQ.wC:=@qQ.wC
theorem QD:type_of% @qQ.wD:=@qQ.wD
theorem QW:type_of% @Work.mk:=@Work.mk
theorem QK:type_of% @ChkD.mk:=@ChkD.mk
theorem Qn:type_of% @jJ.nil:=@jJ.nil
theorem Qr:type_of% @jJ.reg:=@jJ.reg
theorem Qj:type_of% @jJ.obj:=@jJ.obj
theorem Qw:type_of% @wk.same:=@wk.same
theorem Y0:(0:Nat)+0=0:=rfl
def KK(_:Nat):Prop:=True
theorem kk(k:Nat):KK k:=trivial
theorem QVk{P:Program}{cfg:Cfg}{M:Nat → Prop}{fs:List Fr}{Q:Exit → St → Prop}{k:Nat}(_:KK k){x y:Code}{l:List (Nat × AV)}{H:List (Nat × Obj)}{rs:List (Nat × AV)} (h:qQ P cfg M x fs Q ⟨l,H⟩) (e:cutR k rs = l := by (simp only [Zu,Nat.reduceSub,Nat.reduceBEq];with_reducible rfl)) : qQ P cfg M (bif true then x else y) fs Q ⟨rs,H⟩ := qQ.wT k e h
theorem QYk{P:Program}{cfg:Cfg}{M:Nat → Prop}{fs:List Fr}{Q:Exit → St → Prop}{k:Nat}(_:KK k){x y:Code}{l:List (Nat × AV)}{H:List (Nat × Obj)}{rs:List (Nat × AV)} (h:qQ P cfg M y fs Q ⟨l,H⟩) (e:cutR k rs = l := by (simp only [Zu,Nat.reduceSub,Nat.reduceBEq];with_reducible rfl)) : qQ P cfg M (bif false then x else y) fs Q ⟨rs,H⟩ := qQ.wF k e h
theorem QQ{G R:Prop}{k:Nat}(h:KK k)(r:R)(e:KK k→R→G:=by (intro h r;with_reducible (first|refine Q1 ?_|refine Q2 ?_|refine Q3 ?_|refine Q4 ?_|refine Q5 ?_|refine Q6 ?_|refine Q7 ?_|refine Q8 ?_|refine Q9 ?_|refine Qa ?_|refine Qb ?_|refine Qc ?_|refine Qd ?_|refine Qe ?_|refine Qf ?_|refine QO ?_|refine QVk h ?_|refine QYk h ?_);exact r)):G:=e h r
theorem Y3{a b c:Prop}(a1:a)(b1:b)(c1:c):a∧b∧c:=⟨a1,b1,c1⟩
theorem Y4{a b c d:Prop}(a1:a)(b1:b)(c1:c)(d1:d):a∧b∧c∧d:=⟨a1,b1,c1,d1⟩
theorem Y5{a b c d e:Prop}(a1:a)(b1:b)(c1:c)(d1:d)(e1:e):a∧b∧c∧d∧e:=⟨a1,b1,c1,d1,e1⟩
theorem Y6{a b c d e f:Prop}(a1:a)(b1:b)(c1:c)(d1:d)(e1:e)(f1:f):a∧b∧c∧d∧e∧f:=⟨a1,b1,c1,d1,e1,f1⟩
theorem Y7{a b c d e f g:Prop}(a1:a)(b1:b)(c1:c)(d1:d)(e1:e)(f1:f)(g1:g):a∧b∧c∧d∧e∧f∧g:=⟨a1,b1,c1,d1,e1,f1,g1⟩
theorem Y8{a b c d e f g h:Prop}(a1:a)(b1:b)(c1:c)(d1:d)(e1:e)(f1:f)(g1:g)(h1:h):a∧b∧c∧d∧e∧f∧g∧h:=⟨a1,b1,c1,d1,e1,f1,g1,h1⟩
theorem Y9{a b c d e f g h i:Prop}(a1:a)(b1:b)(c1:c)(d1:d)(e1:e)(f1:f)(g1:g)(h1:h)(i1:i):a∧b∧c∧d∧e∧f∧g∧h∧i:=⟨a1,b1,c1,d1,e1,f1,g1,h1,i1⟩
theorem Y10{a b c d e f g h i j:Prop}(a1:a)(b1:b)(c1:c)(d1:d)(e1:e)(f1:f)(g1:g)(h1:h)(i1:i)(j1:j):a∧b∧c∧d∧e∧f∧g∧h∧i∧j:=⟨a1,b1,c1,d1,e1,f1,g1,h1,i1,j1⟩
theorem Y11{a b c d e f g h i j k:Prop}(a1:a)(b1:b)(c1:c)(d1:d)(e1:e)(f1:f)(g1:g)(h1:h)(i1:i)(j1:j)(k1:k):a∧b∧c∧d∧e∧f∧g∧h∧i∧j∧k:=⟨a1,b1,c1,d1,e1,f1,g1,h1,i1,j1,k1⟩
theorem Y12{a b c d e f g h i j k l:Prop}(a1:a)(b1:b)(c1:c)(d1:d)(e1:e)(f1:f)(g1:g)(h1:h)(i1:i)(j1:j)(k1:k)(l1:l):a∧b∧c∧d∧e∧f∧g∧h∧i∧j∧k∧l:=⟨a1,b1,c1,d1,e1,f1,g1,h1,i1,j1,k1,l1⟩
theorem gw1{G R:Prop}{k:Nat}(K:KK k)(r:R)(e:KK k→R→G:=by (intro K r;(repeat' (first|refine QQ K ?_|with_reducible ((first|apply QS (qX _) Tab.none|apply QC);refine QW ?_;simp only [Zg,Zi,seval,eL];rfl)));exact r)):G:=e K r
theorem gw3{G R C:Prop}{k:Nat}(K:KK k)(F:C)(r:R)(e:KK k→C→R→G:=by (intro K F r;(repeat' (first|refine QQ K ?_|with_reducible ((first|apply QS (qX _) ((Tab.none.at' 133 how))|apply QC);refine QW ?_;simp only [Zg,Zi,seval,Int.toNat_natCast,List.length_map,F];rfl)));exact r)):G:=e K F r
theorem gw5{G R C:Prop}{k:Nat}(K:KK k)(F:C)(r:R)(e:KK k→C→R→G:=by (intro K F r;(repeat' (first|refine QQ K ?_|with_reducible ((first|apply QS (qX _) Tab.none|apply QC);refine QW ?_;simp only [Zg,Zi,seval,List.length_map,F];rfl)));exact r)):G:=e K F r
theorem gw7{G R C:Prop}{k:Nat}(K:KK k)(F:C)(r:R)(e:KK k→C→R→G:=by (intro K F r;(repeat' (first|refine QQ K ?_|with_reducible ((first|apply QS (qX _) Tab.none|apply QC);refine QW ?_;simp only [Zg,Zi,seval,F];rfl)));exact r)):G:=e K F r
theorem gw9{G R C:Prop}{k:Nat}(K:KK k)(F:C)(r:R)(e:KK k→C→R→G:=by (intro K F r;(repeat' (first|refine QQ K ?_|with_reducible ((first|apply QS (qX _) (((Tab.none.at' 67 h1).at' 187 h2))|apply QC);refine QW ?_;simp only [Zg,Zi,seval,List.length_map,F];rfl)));exact r)):G:=e K F r
theorem gw12{G R C:Prop}{k:Nat}(K:KK k)(F:C)(r:R)(e:KK k→C→R→G:=by (intro K F r;(repeat' (first|refine QQ K ?_|with_reducible ((first|apply QS (qX _) Tab.none|apply QC);refine QW ?_;simp only [Zg,Zi,seval,Int.toNat_natCast,F];rfl)));exact r)):G:=e K F r
theorem gw14{G R:Prop}{k:Nat}(K:KK k)(r:R)(e:KK k→R→G:=by (intro K r;(repeat' (first|refine QQ K ?_|with_reducible ((first|apply QS (qX _) (Tab.none.at' 186 hca)|apply QC);refine QW ?_;simp only [Zg,Zi,seval];rfl)));exact r)):G:=e K r
theorem gw15{G R:Prop}{k:Nat}(K:KK k)(r:R)(e:KK k→R→G:=by (intro K r;(repeat' (first|refine QQ K ?_|with_reducible ((first|apply QS (qX _) (Tab.none.at' 57 h1)|apply QC);refine QW ?_;simp only [Zg,Zi,seval,eL];rfl)));exact r)):G:=e K r
theorem gw16{G R:Prop}{k:Nat}(K:KK k)(r:R)(e:KK k→R→G:=by (intro K r;(repeat' (first|refine QQ K ?_|with_reducible ((first|apply QS (qX _) (((Tab.none.at' 57 h1).at' 91 h2).at' 180 h3)|apply QC);refine QW ?_;simp only [Zg,Zi,seval,eL];rfl)));exact r)):G:=e K r
theorem gw17{G R:Prop}{k:Nat}(K:KK k)(r:R)(e:KK k→R→G:=by (intro K r;(repeat' (first|refine QQ K ?_|with_reducible ((first|apply QS (qX _) (Tab.none.at' 188 h1)|apply QC);refine QW ?_;simp only [Zg,Zi,seval,eL];rfl)));exact r)):G:=e K r
theorem gw18{G R:Prop}{k:Nat}(K:KK k)(r:R)(e:KK k→R→G:=by (intro K r;(repeat' (first|refine QQ K ?_|with_reducible ((first|apply QS (qX _) (((Tab.none.at' 188 h1).at' 186 h2).at' 189 h3)|apply QC);refine QW ?_;simp only [Zg,Zi,seval,eL];rfl)));exact r)):G:=e K r
theorem gw19{G R C:Prop}{k:Nat}(K:KK k)(F:C)(r:R)(e:KK k→C→R→G:=by (intro K F r;(repeat' (first|refine QQ K ?_|with_reducible ((first|apply QS (qX _) TFor|apply QC);refine QW ?_;simp only [Zg,Zi,seval,TFor,eL,F];rfl)));exact r)):G:=e K F r
theorem gw20{G R C:Prop}{k:Nat}(K:KK k)(F:C)(r:R)(e:KK k→C→R→G:=by (intro K F r;(repeat' (first|refine QQ K ?_|with_reducible ((first|apply QS (qX _) TFor|apply QC);refine QW ?_;simp only [Zg,Zi,seval,TFor,Int.toNat_natCast,List.length_map,F];rfl)));exact r)):G:=e K F r
theorem gw21{G R C:Prop}{k:Nat}(K:KK k)(F:C)(r:R)(e:KK k→C→R→G:=by (intro K F r;(repeat' (first|refine QQ K ?_|with_reducible ((first|apply QS (qX _) TFor|apply QC);refine QW ?_;simp only [Zg,Zi,seval,TFor,F];rfl)));exact r)):G:=e K F r
theorem gw22{G R C:Prop}{k:Nat}(K:KK k)(F:C)(r:R)(e:KK k→C→R→G:=by (intro K F r;(repeat' (first|refine QQ K ?_|with_reducible ((first|apply QS (qX _) jD|apply QC);refine QW ?_;simp only [Zg,Zi,seval,jD,eL,F];rfl)|with_reducible (apply QD (qX _) jD qE;(refine QW ?_;simp only [Zg,Zd,Zi,seval,jD,eL,F];rfl);refine QK ?_;simp only [Zk];kernel_rfl)));exact r)):G:=e K F r
theorem gw23{G R C:Prop}{k:Nat}(K:KK k)(F:C)(r:R)(e:KK k→C→R→G:=by (intro K F r;(repeat' (first|refine QQ K ?_|with_reducible ((first|apply QS (qX _) jD|apply QC);refine QW ?_;simp only [Zg,Zi,seval,jD,Int.toNat_natCast,List.length_map,F];rfl)|with_reducible (apply QD (qX _) jD qE;(refine QW ?_;simp only [Zg,Zd,Zi,seval,jD,Int.toNat_natCast,List.length_map,F];rfl);refine QK ?_;simp only [Zk];kernel_rfl)));exact r)):G:=e K F r
theorem gw24{G R C:Prop}{k:Nat}(K:KK k)(F:C)(r:R)(e:KK k→C→R→G:=by (intro K F r;(repeat' (first|refine QQ K ?_|with_reducible ((first|apply QS (qX _) jD|apply QC);refine QW ?_;simp only [Zg,Zi,seval,jD,F];rfl)|with_reducible (apply QD (qX _) jD qE;(refine QW ?_;simp only [Zg,Zd,Zi,seval,jD,F];rfl);refine QK ?_;simp only [Zk];kernel_rfl)));exact r)):G:=e K F r
theorem gw25{G R C:Prop}{k:Nat}(K:KK k)(F:C)(r:R)(e:KK k→C→R→G:=by (intro K F r;(repeat' (first|refine QQ K ?_|with_reducible ((first|apply QS (qX _) jD|apply QC);refine QW ?_;simp only [Zg,Zi,seval,jD,List.length_map,F];rfl)|with_reducible (apply QD (qX _) jD qE;(refine QW ?_;simp only [Zg,Zd,Zi,seval,jD,List.length_map,F];rfl);refine QK ?_;simp only [Zk];kernel_rfl)));exact r)):G:=e K F r
theorem gw26{G R C:Prop}{k:Nat}(K:KK k)(F:C)(r:R)(e:KK k→C→R→G:=by (intro K F r;(repeat' (first|refine QQ K ?_|with_reducible ((first|apply QS (qX _) jD|apply QC);refine QW ?_;simp only [Zg,Zi,seval,jD,eL,List.length_map,F];rfl)|with_reducible (apply QD (qX _) jD qE;(refine QW ?_;simp only [Zg,Zd,Zi,seval,jD,eL,List.length_map,F];rfl);refine QK ?_;simp only [Zk];kernel_rfl)));exact r)):G:=e K F r
theorem gw27{G R C:Prop}{k:Nat}(K:KK k)(F:C)(r:R)(e:KK k→C→R→G:=by (intro K F r;(repeat' (first|refine QQ K ?_|with_reducible ((first|apply QS (qX _) TOrd|apply QC);refine QW ?_;simp only [Zg,Zi,seval,TOrd,jD,e3,F];rfl)|with_reducible (apply QD (qX _) TOrd qE;(refine QW ?_;simp only [Zg,Zd,Zi,seval,TOrd,jD,e3,F];rfl);refine QK ?_;simp only [Zk];kernel_rfl)));exact r)):G:=e K F r
theorem gw28{G R C:Prop}{k:Nat}(K:KK k)(F:C)(r:R)(e:KK k→C→R→G:=by (intro K F r;(repeat' (first|refine QQ K ?_|with_reducible ((first|apply QS (qX _) Tab.none|apply QC);refine QW ?_;simp only [Zg,Zi,seval,F];rfl)|with_reducible (apply QD (qX _) Tab.none qE;(refine QW ?_;simp only [Zg,Zd,Zi,seval,F];rfl);refine QK ?_;simp only [Zk];kernel_rfl)));exact r)):G:=e K F r
theorem gw30{G R C:Prop}{k:Nat}(K:KK k)(F:C)(r:R)(e:KK k→C→R→G:=by (intro K F r;(repeat' (first|refine QQ K ?_|with_reducible ((first|apply QS (qX _) yG|apply QC);refine QW ?_;simp only [Zg,Zi,seval,yG,yG,kP,z10,z00,zm0,Int.toNat_natCast,List.length_map,F];rfl)|with_reducible (apply QD (qX _) yG qE;(refine QW ?_;simp only [Zg,Zd,Zi,seval,yG,yG,kP,z10,z00,zm0,Int.toNat_natCast,List.length_map,F];rfl);refine QK ?_;simp only [Zk];kernel_rfl)));exact r)):G:=e K F r
theorem gw32{G R C:Prop}{k:Nat}(K:KK k)(F:C)(r:R)(e:KK k→C→R→G:=by (intro K F r;(repeat' (first|refine QQ K ?_|with_reducible ((first|apply QS (qX _) yG|apply QC);refine QW ?_;simp only [Zg,Zi,seval,yG,yG,kP,z10,z00,zm0,Int.toNat_natCast,List.length_map,List.length_append,F];rfl)|with_reducible (apply QD (qX _) yG qE;(refine QW ?_;simp only [Zg,Zd,Zi,seval,yG,yG,kP,z10,z00,zm0,Int.toNat_natCast,List.length_map,List.length_append,F];rfl);refine QK ?_;simp only [Zk];kernel_rfl)));exact r)):G:=e K F r
theorem gw33{G R C:Prop}{k:Nat}(K:KK k)(F:C)(r:R)(e:KK k→C→R→G:=by (intro K F r;(repeat' (first|refine QQ K ?_|with_reducible ((first|apply QS (qX _) Tab.none|apply QC);refine QW ?_;simp only [Zg,Zi,seval,List.length_map,F];rfl)|with_reducible (apply QD (qX _) Tab.none qE;(refine QW ?_;simp only [Zg,Zd,Zi,seval,List.length_map,F];rfl);refine QK ?_;simp only [Zk];kernel_rfl)));exact r)):G:=e K F r
theorem gw34{G R C:Prop}{k:Nat}(K:KK k)(F:C)(r:R)(e:KK k→C→R→G:=by (intro K F r;(repeat' (first|refine QQ K ?_|with_reducible ((first|apply QS (qX _) yG|apply QC);refine QW ?_;simp only [Zg,Zi,seval,yG,List.length_map,F];rfl)|with_reducible (apply QD (qX _) yG qE;(refine QW ?_;simp only [Zg,Zd,Zi,seval,yG,List.length_map,F];rfl);refine QK ?_;simp only [Zk];kernel_rfl)));exact r)):G:=e K F r
theorem gw37{G R C:Prop}{k:Nat}(K:KK k)(F:C)(r:R)(e:KK k→C→R→G:=by (intro K F r;(repeat' (first|refine QQ K ?_|with_reducible ((first|apply QS (qX _) Tab.none|apply QC);refine QW ?_;simp only [Zg,Zi,seval,Int.toNat_natCast,F];rfl)|with_reducible (apply QD (qX _) Tab.none qE;(refine QW ?_;simp only [Zg,Zd,Zi,seval,Int.toNat_natCast,F];rfl);refine QK ?_;simp only [Zk];kernel_rfl)));exact r)):G:=e K F r
theorem gw39{G R C:Prop}{k:Nat}(K:KK k)(F:C)(r:R)(e:KK k→C→R→G:=by (intro K F r;(repeat' (first|refine QQ K ?_|with_reducible ((first|apply QS (qX _) TTmN|apply QC);refine QW ?_;simp only [Zg,Zi,seval,TTmN,TTmN,kP,codSps_d,Int.toNat_natCast,F];rfl)|with_reducible (apply QD (qX _) TTmN qE;(refine QW ?_;simp only [Zg,Zd,Zi,seval,TTmN,TTmN,kP,codSps_d,Int.toNat_natCast,F];rfl);refine QK ?_;simp only [Zk];kernel_rfl)));exact r)):G:=e K F r
theorem gw41{G R:Prop}{k:Nat}(K:KK k)(r:R)(e:KK k→R→G:=by (intro K r;(repeat' (first|refine QQ K ?_|with_reducible ((first|apply QS (qX _) (((Tab.none.at' 186 h1).at' 230 h2).at' 187 h3)|apply QC);refine QW ?_;simp only [Zg,Zi,seval];rfl)));exact r)):G:=e K r
theorem gw43{G R C:Prop}{k:Nat}(K:KK k)(F:C)(r:R)(e:KK k→C→R→G:=by (intro K F r;(repeat' (first|refine QQ K ?_|with_reducible ((first|apply QS (qX _) ((Tab.none.at' 132 ht).at' 131 htm)|apply QC);refine QW ?_;simp only [Zg,Zi,seval,Int.toNat_natCast,F];rfl)));exact r)):G:=e K F r
theorem gw44{G R:Prop}{k:Nat}(K:KK k)(r:R)(e:KK k→R→G:=by (intro K r;(repeat' (first|refine QQ K ?_|with_reducible ((first|apply QS (qX _) ((Tab.none.at' 192 hbr).at' 66 hfo)|apply QC);refine QW ?_;simp only [Zg,Zi,seval];rfl)|with_reducible (apply QD (qX _) ((Tab.none.at' 192 hbr).at' 66 hfo) qE;(refine QW ?_;simp only [Zg,Zd,Zi,seval];rfl);refine QK ?_;simp only [Zk];kernel_rfl)));exact r)):G:=e K r
theorem gw46{G R C:Prop}{k:Nat}(K:KK k)(F:C)(r:R)(e:KK k→C→R→G:=by (intro K F r;(repeat' (first|refine QQ K ?_|with_reducible ((first|apply QS (qX _) ((Tab.none.at' 193 hroot).at' 191 hput)|apply QC);refine QW ?_;simp only [Zg,Zi,seval,Int.toNat_natCast,F];rfl)|with_reducible (apply QD (qX _) ((Tab.none.at' 193 hroot).at' 191 hput) qE;(refine QW ?_;simp only [Zg,Zd,Zi,seval,Int.toNat_natCast,F];rfl);refine QK ?_;simp only [Zk];kernel_rfl)));exact r)):G:=e K F r
theorem gw48{G R C:Prop}{k:Nat}(K:KK k)(F:C)(r:R)(e:KK k→C→R→G:=by (intro K F r;(repeat' (first|refine QQ K ?_|with_reducible ((first|apply QS (qX _) TGa1|apply QC);refine QW ?_;simp only [Zg,Zi,seval,TGa1,TGa1,F];rfl)));exact r)):G:=e K F r
theorem gw51{G R C:Prop}{k:Nat}(K:KK k)(F:C)(r:R)(e:KK k→C→R→G:=by (intro K F r;(repeat' (first|refine QQ K ?_|with_reducible ((first|apply QS (qX _) TGa2|apply QC);refine QW ?_;simp only [Zg,Zi,seval,TGa2,TGa2,Int.toNat_natCast,List.length_nil,F];rfl)|with_reducible (apply QD (qX _) TGa2 qE;(refine QW ?_;simp only [Zg,Zd,Zi,seval,TGa2,TGa2,Int.toNat_natCast,List.length_nil,F];rfl);refine QK ?_;simp only [Zk];kernel_rfl)));exact r)):G:=e K F r
theorem gw53{G R C:Prop}{k:Nat}(K:KK k)(F:C)(r:R)(e:KK k→C→R→G:=by (intro K F r;(repeat' (first|refine QQ K ?_|with_reducible ((first|apply QS (qX _) TGa2|apply QC);refine QW ?_;simp only [Zg,Zi,seval,TGa2,TGa2,kP,Int.toNat_natCast,F];rfl)|with_reducible (apply QD (qX _) TGa2 qE;(refine QW ?_;simp only [Zg,Zd,Zi,seval,TGa2,TGa2,kP,Int.toNat_natCast,F];rfl);refine QK ?_;simp only [Zk];kernel_rfl)));exact r)):G:=e K F r
theorem gw56{G R C:Prop}{k:Nat}(K:KK k)(F:C)(r:R)(e:KK k→C→R→G:=by (intro K F r;(repeat' (first|refine QQ K ?_|with_reducible ((first|apply QS (qX _) Tab.none|apply QC);refine QW ?_;simp only [Zg,Zi,seval,Int.toNat_natCast,List.length_map,F];rfl)));exact r)):G:=e K F r
theorem gw58{G R:Prop}{k:Nat}(K:KK k)(r:R)(e:KK k→R→G:=by (intro K r;(repeat' (first|refine QQ K ?_|with_reducible ((first|apply QS (qX _) (Tab.none.at' 103 hbr)|apply QC);refine QW ?_;simp only [Zg,Zi,seval,List.length_map];rfl)|with_reducible (apply QD (qX _) (Tab.none.at' 103 hbr) qE;(refine QW ?_;simp only [Zg,Zd,Zi,seval,List.length_map];rfl);refine QK ?_;simp only [Zk];kernel_rfl)));exact r)):G:=e K r
theorem gw60{G R C:Prop}{k:Nat}(K:KK k)(F:C)(r:R)(e:KK k→C→R→G:=by (intro K F r;(repeat' (first|refine QQ K ?_|with_reducible ((first|apply QS (qX _) Tab.none|apply QC);refine QW ?_;simp only [Zg,Zi,seval,Int.toNat_natCast,List.length_map,F];rfl)|with_reducible (apply QD (qX _) Tab.none qE;(refine QW ?_;simp only [Zg,Zd,Zi,seval,Int.toNat_natCast,List.length_map,F];rfl);refine QK ?_;simp only [Zk];kernel_rfl)));exact r)):G:=e K F r
theorem gw62{G R C:Prop}{k:Nat}(K:KK k)(F:C)(r:R)(e:KK k→C→R→G:=by (intro K F r;(repeat' (first|refine QQ K ?_|with_reducible ((first|apply QS (qX _) (Tab.none.at' 117 hih)|apply QC);refine QW ?_;simp only [Zg,Zi,seval,Int.toNat_natCast,F];rfl)|with_reducible (apply QD (qX _) (Tab.none.at' 117 hih) qE;(refine QW ?_;simp only [Zg,Zd,Zi,seval,Int.toNat_natCast,F];rfl);refine QK ?_;simp only [Zk];kernel_rfl)));exact r)):G:=e K F r
theorem gw65{G R C:Prop}{k:Nat}(K:KK k)(F:C)(r:R)(e:KK k→C→R→G:=by (intro K F r;(repeat' (first|refine QQ K ?_|with_reducible ((first|apply QS (qX _) ((Tab.none.at' 100 hro).at' 91 hcr)|apply QC);refine QW ?_;simp only [Zg,Zi,seval,Int.toNat_natCast,F];rfl)|with_reducible (apply QD (qX _) ((Tab.none.at' 100 hro).at' 91 hcr) qE;(refine QW ?_;simp only [Zg,Zd,Zi,seval,Int.toNat_natCast,F];rfl);refine QK ?_;simp only [Zk];kernel_rfl)));exact r)):G:=e K F r
theorem gw66{G R C:Prop}{k:Nat}(K:KK k)(F:C)(r:R)(e:KK k→C→R→G:=by (intro K F r;(repeat' (first|refine QQ K ?_|with_reducible ((first|apply QS (qX _) (Tab.none.at' 91 hca)|apply QC);refine QW ?_;simp only [Zg,Zi,seval,F];rfl)|with_reducible (apply QD (qX _) (Tab.none.at' 91 hca) qE;(refine QW ?_;simp only [Zg,Zd,Zi,seval,F];rfl);refine QK ?_;simp only [Zk];kernel_rfl)));exact r)):G:=e K F r
theorem gw68{G R:Prop}{k:Nat}(K:KK k)(r:R)(e:KK k→R→G:=by (intro K r;(repeat' (first|refine QQ K ?_|with_reducible ((first|apply QS (qX _) ((Tab.none.at' 117 hsp).own' 60 0 hga)|apply QC);refine QW ?_;simp only [Zg,Zi,seval,Tab.own',atOwn_eq,List.length_map];rfl)));exact r)):G:=e K r
theorem gw69{G R C:Prop}{k:Nat}(K:KK k)(F:C)(r:R)(e:KK k→C→R→G:=by (intro K F r;(repeat' (first|refine QQ K ?_|with_reducible (apply QC;refine QW ?_;simp only [Zg,Zi,seval,F];rfl)));exact r)):G:=e K F r
theorem gw70{G R C:Prop}{k:Nat}(K:KK k)(F:C)(r:R)(e:KK k→C→R→G:=by (intro K F r;(repeat' (first|refine QQ K ?_|with_reducible (apply QC;refine QW ?_;simp only [Zg,Zi,seval,Int.toNat_natCast,F];rfl)));exact r)):G:=e K F r
theorem gw71{G R C:Prop}{k:Nat}(K:KK k)(F:C)(r:R)(e:KK k→C→R→G:=by (intro K F r;(repeat' (first|refine QQ K ?_|with_reducible ((first|apply QS (qX _) Tab.none|apply QC);refine QW ?_;simp only [Zg,Zi,seval,List.length_map,List.length_nil,F];rfl)));exact r)):G:=e K F r
theorem gw73{G R C:Prop}{k:Nat}(K:KK k)(F:C)(r:R)(e:KK k→C→R→G:=by (intro K F r;(repeat' (first|refine QQ K ?_|with_reducible (apply QC;refine QW ?_;simp only [Zg,Zi,seval,List.length_map,F];rfl)));exact r)):G:=e K F r
theorem gw74{G R C:Prop}{k:Nat}(K:KK k)(F:C)(r:R)(e:KK k→C→R→G:=by (intro K F r;(repeat' (first|refine QQ K ?_|with_reducible ((first|apply QS (qX _) (Tab.none.at' 103 hbr)|apply QC);refine QW ?_;simp only [Zg,Zi,seval,F];rfl)));exact r)):G:=e K F r
theorem gw76{G R C:Prop}{k:Nat}(K:KK k)(F:C)(r:R)(e:KK k→C→R→G:=by (intro K F r;(repeat' (first|refine QQ K ?_|with_reducible ((first|apply QS (qX _) (Tab.none.at' 68 hih)|apply QC);refine QW ?_;simp only [Zg,Zi,seval,Int.toNat_natCast,F];rfl)));exact r)):G:=e K F r
theorem gw77{G R:Prop}{k:Nat}(K:KK k)(r:R)(e:KK k→R→G:=by (intro K r;(repeat' (first|refine QQ K ?_|with_reducible ((first|apply QS (qX _) ((Tab.none.at' 57 hl).at' 68 hc)|apply QC);refine QW ?_;simp only [Zg,Zi,seval];rfl)));exact r)):G:=e K r
theorem gw78{G R:Prop}{k:Nat}(K:KK k)(r:R)(e:KK k→R→G:=by (intro K r;(repeat' (first|refine QQ K ?_|with_reducible ((first|apply QS (qX _) (Tab.none.at' 57 hl)|apply QC);refine QW ?_;simp only [Zg,Zi,seval];rfl)));exact r)):G:=e K r
theorem gw79{G R:Prop}{k:Nat}(K:KK k)(r:R)(e:KK k→R→G:=by (intro K r;(repeat' (first|refine QQ K ?_|with_reducible ((first|apply QS (qX _) (((Tab.none.at' 59 hl).at' 61 hs).own' 60 0 hga)|apply QC);refine QW ?_;simp only [Zg,Zi,seval,Tab.own',atOwn_eq];rfl)));exact r)):G:=e K r
theorem gw80{G R:Prop}{k:Nat}(K:KK k)(r:R)(e:KK k→R→G:=by (intro K r;(repeat' (first|refine QQ K ?_|with_reducible ((first|apply QS (qX _) (Tab.none.at' 59 hl)|apply QC);refine QW ?_;simp only [Zg,Zi,seval];rfl)));exact r)):G:=e K r
theorem gw81{G R:Prop}{k:Nat}(K:KK k)(r:R)(e:KK k→R→G:=by (intro K r;(repeat' (first|refine QQ K ?_|with_reducible ((first|apply QS (qX _) (Tab.none.at' 65 hl)|apply QC);refine QW ?_;simp only [Zg,Zi,seval];rfl)|with_reducible (apply QD (qX _) (Tab.none.at' 65 hl) qE;(refine QW ?_;simp only [Zg,Zd,Zi,seval];rfl);refine QK ?_;simp only [Zk];kernel_rfl)));exact r)):G:=e K r
theorem gw82{G R:Prop}{k:Nat}(K:KK k)(r:R)(e:KK k→R→G:=by (intro K r;(repeat' (first|refine QQ K ?_|with_reducible ((first|apply QS (qX _) ((Tab.none.at' 65 hl).at' 66 hfor)|apply QC);refine QW ?_;simp only [Zg,Zi,seval];rfl)|with_reducible (apply QD (qX _) ((Tab.none.at' 65 hl).at' 66 hfor) qE;(refine QW ?_;simp only [Zg,Zd,Zi,seval];rfl);refine QK ?_;simp only [Zk];kernel_rfl)));exact r)):G:=e K r
theorem gw83{G R C:Prop}{k:Nat}(K:KK k)(F:C)(r:R)(e:KK k→C→R→G:=by (intro K F r;(repeat' (first|refine QQ K ?_|with_reducible ((first|apply QS (qX _) TCfs|apply QC);refine QW ?_;simp only [Zg,Zi,seval,TCfs,TCfs,Int.toNat_natCast,List.length_map,F];rfl)|with_reducible (apply QD (qX _) TCfs qE;(refine QW ?_;simp only [Zg,Zd,Zi,seval,TCfs,TCfs,Int.toNat_natCast,List.length_map,F];rfl);refine QK ?_;simp only [Zk];kernel_rfl)));exact r)):G:=e K F r
theorem gw84{G R:Prop}{k:Nat}(K:KK k)(r:R)(e:KK k→R→G:=by (intro K r;(repeat' (first|refine QQ K ?_|with_reducible ((first|apply QS (qX _) ((Tab.none.at' 57 hl).at' 58 hc)|apply QC);refine QW ?_;simp only [Zg,Zi,seval];rfl)));exact r)):G:=e K r
theorem gw85{G R:Prop}{k:Nat}(K:KK k)(r:R)(e:KK k→R→G:=by (intro K r;(repeat' (first|refine QQ K ?_|with_reducible ((first|apply QS (qX _) (((Tab.none.at' 57 hl).at' 91 hc).at' 124 ht)|apply QC);refine QW ?_;simp only [Zg,Zi,seval];rfl)));exact r)):G:=e K r
theorem gw86{G R C:Prop}{k:Nat}(K:KK k)(F:C)(r:R)(e:KK k→C→R→G:=by (intro K F r;(repeat' (first|refine QQ K ?_|with_reducible ((first|apply QS (qX _) (Tab.none.at' 62 htx)|apply QC);refine QW ?_;simp only [Zg,Zi,seval,bb_app,Int.toNat_natCast,F];rfl)));exact r)):G:=e K F r
theorem gw88{G R C:Prop}{k:Nat}(K:KK k)(F:C)(r:R)(e:KK k→C→R→G:=by (intro K F r;(repeat' (first|refine QQ K ?_|with_reducible ((first|apply QS (qX _) Tab.none|apply QC);refine QW ?_;simp only [Zg,Zi,seval,bb_list,Int.toNat_natCast,F];rfl)));exact r)):G:=e K F r
theorem gw90{G R C:Prop}{k:Nat}(K:KK k)(F:C)(r:R)(e:KK k→C→R→G:=by (intro K F r;(repeat' (first|refine QQ K ?_|with_reducible ((first|apply QS (qX _) (Tab.none.pin 82 (nxtE code) hpin)|apply QC);refine QW ?_;simp only [Zg,Zi,seval,nxtE,F];rfl)));exact r)):G:=e K F r
theorem gw94{G R C:Prop}{k:Nat}(K:KK k)(F:C)(r:R)(e:KK k→C→R→G:=by (intro K F r;(repeat' (first|refine QQ K ?_|with_reducible ((first|apply QS (qX _) ((Tab.none.pin 82 (nxtE code) hpin).pin 126 (drwE code (drw1 (drawG code))) hdw)|apply QC);refine QW ?_;simp only [Zg,Zi,seval,nxtE,drwE,F];rfl)));exact r)):G:=e K F r
theorem gw96{G R C:Prop}{k:Nat}(K:KK k)(F:C)(r:R)(e:KK k→C→R→G:=by (intro K F r;(repeat' (first|refine QQ K ?_|with_reducible ((first|apply QS (qX _) (Tab.none.pin 53 (nxtE code) hpin)|apply QC);refine QW ?_;simp only [Zg,Zi,seval,nxtE,F];rfl)));exact r)):G:=e K F r
theorem gw98{G R C:Prop}{k:Nat}(K:KK k)(F:C)(r:R)(e:KK k→C→R→G:=by (intro K F r;(repeat' (first|refine QQ K ?_|with_reducible ((first|apply QS (qX _) ((((Tab.none.pin 82 (nxtE code) hpin).pin 126 (drwE code (drw1 (drawG code))) hdw).at' 186 hca))|apply QC);refine QW ?_;simp only [Zg,Zi,seval,nxtE,drwE,F];rfl)));exact r)):G:=e K F r
theorem gw100{G R C:Prop}{k:Nat}(K:KK k)(F:C)(r:R)(e:KK k→C→R→G:=by (intro K F r;(repeat' (first|refine QQ K ?_|with_reducible ((first|apply QS (qX _) ((((Tab.none.pin 82 (nxtE code) hpin).pin 126 (drwE code (drw1 (drawG code))) hdw).at' 186 hca))|apply QC);refine QW ?_;simp only [Zg,Zi,seval,nxtE,drwE,Int.toNat_natCast,F];rfl)));exact r)):G:=e K F r
theorem gw102{G R C:Prop}{k:Nat}(K:KK k)(F:C)(r:R)(e:KK k→C→R→G:=by (intro K F r;(repeat' (first|refine QQ K ?_|with_reducible ((first|apply QS (qX _) (((((Tab.none.pin 82 (nxtE code) hpin).pin 126 (drwE code (drw1 (drawG code))) hdw).at' 186 hca).at' 133 how))|apply QC);refine QW ?_;simp only [Zg,Zi,seval,nxtE,drwE,Int.toNat_natCast,F];rfl)));exact r)):G:=e K F r
theorem gw103{G R:Prop}{k:Nat}(K:KK k)(r:R)(e:KK k→R→G:=by (intro K r;(repeat' (first|refine QQ K ?_|with_reducible ((first|apply QS (qX _) (Tab.none.at' 187 hso)|apply QC);refine QW ?_;simp only [Zg,Zi,seval,eL];rfl)));exact r)):G:=e K r
theorem gw104{G R C:Prop}{k:Nat}(K:KK k)(F:C)(r:R)(e:KK k→C→R→G:=by (intro K F r;(repeat' (first|refine QQ K ?_|with_reducible ((first|apply QS (qX _) (((Tab.none.pin 82 (nxtE code) hpin).pin 126 (drwE code (drw1 (drawG code))) hdw).pin 125 (drwE code (drw1 (vI code))) hdf)|apply QC);refine QW ?_;simp only [Zg,Zi,seval,nxtE,drwE,F];rfl)));exact r)):G:=e K F r
theorem gw105{G R C:Prop}{k:Nat}(K:KK k)(F:C)(r:R)(e:KK k→C→R→G:=by (intro K F r;(repeat' (first|refine QQ K ?_|with_reducible ((first|apply QS (qX _) (((Tab.none.pin 82 (nxtE code) hpin).pin 127 (drwE code (drw1 (drawAnyG code))) hda).pin 125 (drwE code (drw1 (vI code))) hdf)|apply QC);refine QW ?_;simp only [Zg,Zi,seval,nxtE,drwE,F];rfl)));exact r)):G:=e K F r
theorem gw106{G R C:Prop}{k:Nat}(K:KK k)(F:C)(r:R)(e:KK k→C→R→G:=by (intro K F r;(repeat' (first|refine QQ K ?_|with_reducible ((first|apply QS (qX _) ((Tab.none.pin 82 (nxtE code) hpin).pin 125 (drwE code (drw1 (vI code))) hdf)|apply QC);refine QW ?_;simp only [Zg,Zi,seval,nxtE,drwE,F];rfl)));exact r)):G:=e K F r
theorem gw107{G R:Prop}{k:Nat}(K:KK k)(r:R)(e:KK k→R→G:=by (intro K r;(repeat' (first|refine QQ K ?_|with_reducible ((first|apply QS (qX _) (Tab.none.at' 10 hbg)|apply QC);refine QW ?_;simp only [Zg,Zi,seval];rfl)|with_reducible (apply QD (qX _) (Tab.none.at' 10 hbg) qE;(refine QW ?_;simp only [Zg,Zd,Zi,seval];rfl);refine QK ?_;simp only [Zk];kernel_rfl)));exact r)):G:=e K r
theorem gw108{G R C:Prop}{k:Nat}(K:KK k)(F:C)(r:R)(e:KK k→C→R→G:=by (intro K F r;(repeat' (first|refine QQ K ?_|with_reducible ((first|apply QS (qX _) (Tab.none.at' 13 hco)|apply QC);refine QW ?_;simp only [Zg,Zi,seval,F];rfl)|with_reducible (apply QD (qX _) (Tab.none.at' 13 hco) qE;(refine QW ?_;simp only [Zg,Zd,Zi,seval,F];rfl);refine QK ?_;simp only [Zk];kernel_rfl)));exact r)):G:=e K F r
theorem gw111{G R C:Prop}{k:Nat}(K:KK k)(F:C)(r:R)(e:KK k→C→R→G:=by (intro K F r;(repeat' (first|refine QQ K ?_|with_reducible ((first|apply QS (qX _) (Tab.none.at' 14 hcf)|apply QC);refine QW ?_;simp only [Zg,Zi,seval,Int.toNat_natCast,F];rfl)|with_reducible (apply QD (qX _) (Tab.none.at' 14 hcf) qE;(refine QW ?_;simp only [Zg,Zd,Zi,seval,Int.toNat_natCast,F];rfl);refine QK ?_;simp only [Zk];kernel_rfl)));exact r)):G:=e K F r
theorem gw113{G R C:Prop}{k:Nat}(K:KK k)(F:C)(r:R)(e:KK k→C→R→G:=by (intro K F r;(repeat' (first|refine QQ K ?_|with_reducible ((first|apply QS (qX _) (Tab.none.at' 13 hco2)|apply QC);refine QW ?_;simp only [Zg,Zi,seval,Int.toNat_natCast,F];rfl)|with_reducible (apply QD (qX _) (Tab.none.at' 13 hco2) qE;(refine QW ?_;simp only [Zg,Zd,Zi,seval,Int.toNat_natCast,F];rfl);refine QK ?_;simp only [Zk];kernel_rfl)));exact r)):G:=e K F r
theorem gw115{G R C:Prop}{k:Nat}(K:KK k)(F:C)(r:R)(e:KK k→C→R→G:=by (intro K F r;(repeat' (first|refine QQ K ?_|with_reducible ((first|apply QS (qX _) ((((Tab.none.at' 17 heq).at' 18 hdf).at' 14 hc1).at' 19 hc2)|apply QC);refine QW ?_;simp only [Zg,Zi,seval,List.map_nil,List.length_nil,Int.natCast_zero,F];rfl)|with_reducible (apply QD (qX _) ((((Tab.none.at' 17 heq).at' 18 hdf).at' 14 hc1).at' 19 hc2) qE;(refine QW ?_;simp only [Zg,Zd,Zi,seval,List.map_nil,List.length_nil,Int.natCast_zero,F];rfl);refine QK ?_;simp only [Zk];kernel_rfl)));exact r)):G:=e K F r
theorem gw116{G R C:Prop}{k:Nat}(K:KK k)(F:C)(r:R)(e:KK k→C→R→G:=by (intro K F r;(repeat' (first|refine QQ K ?_|with_reducible ((first|apply QS (qX _) ((((Tab.none.at' 17 heq).at' 18 hdf).at' 14 hc1).at' 19 hc2)|apply QC);refine QW ?_;simp only [Zg,Zi,seval,F];rfl)|with_reducible (apply QD (qX _) ((((Tab.none.at' 17 heq).at' 18 hdf).at' 14 hc1).at' 19 hc2) qE;(refine QW ?_;simp only [Zg,Zd,Zi,seval,F];rfl);refine QK ?_;simp only [Zk];kernel_rfl)));exact r)):G:=e K F r
theorem gw117{G R C:Prop}{k:Nat}(K:KK k)(F:C)(r:R)(e:KK k→C→R→G:=by (intro K F r;(repeat' (first|refine QQ K ?_|with_reducible ((first|apply QS (qX _) TNt|apply QC);refine QW ?_;simp only [Zg,Zi,seval,TNt,TNt,vY,Int.toNat_natCast,F];rfl)|with_reducible (apply QD (qX _) TNt qE;(refine QW ?_;simp only [Zg,Zd,Zi,seval,TNt,TNt,vY,Int.toNat_natCast,F];rfl);refine QK ?_;simp only [Zk];kernel_rfl)));exact r)):G:=e K F r
theorem gw118{G R C:Prop}{k:Nat}(K:KK k)(F:C)(r:R)(e:KK k→C→R→G:=by (intro K F r;(repeat' (first|refine QQ K ?_|with_reducible ((first|apply QS (qX _) (Tab.none.at' 21 hcn)|apply QC);refine QW ?_;simp only [Zg,Zi,seval,Int.toNat_natCast,F];rfl)|with_reducible (apply QD (qX _) (Tab.none.at' 21 hcn) qE;(refine QW ?_;simp only [Zg,Zd,Zi,seval,Int.toNat_natCast,F];rfl);refine QK ?_;simp only [Zk];kernel_rfl)));exact r)):G:=e K F r
theorem gw2{G:Prop}(e:G:=by ((repeat' (first|exact Qn|((with_reducible refine Qr ?_ ?_);focus first|with_reducible rfl|(simp only [Zz,Nat.reduceBEq,List.take_zero,List.map_nil];done)|rfl)|((with_reducible apply Qj);rfl)|((with_reducible refine Qw ?_ ?_);(focus first|with_reducible rfl|(simp only [Zv,List.take_zero,List.map_nil];done));first|exact id|exact nofun|exact fun _=>rfl))))):G:=e
theorem gw4{G:Prop}(e:G:=by ((repeat' (first|exact Qn|((with_reducible refine Qr ?_ ?_);focus first|with_reducible rfl|(simp only [Zz,Nat.reduceBEq,eL];done)|rfl)|((with_reducible apply Qj);rfl)|((with_reducible refine Qw ?_ ?_);(focus first|with_reducible rfl|(simp only [Zv,eL];done));first|exact id|exact nofun|exact fun _=>rfl))))):G:=e
theorem gw6{G:Prop}(e:G:=by ((repeat' (first|exact Qn|((with_reducible refine Qr ?_ ?_);focus first|with_reducible rfl|(simp only [Zz,Nat.reduceBEq];done)|rfl)|((with_reducible apply Qj);rfl)|((with_reducible refine Qw ?_ ?_);(focus first|with_reducible rfl|(simp only [Zv];done));first|exact id|exact nofun|exact fun _=>rfl))))):G:=e
theorem gw8{G:Prop}(e:G:=by ((refine Ends.mk (by simp) (rs:=?_) (ks:=?_) hres hrts ?_ ?_ ?_;rotate_left 2;(focus (simp only [Ze,Zg,Zi,seval];with_reducible rfl));(focus simp);focus (first|with_reducible rfl|(simp only [Zv];done))))):G:=e
theorem gw10{G C:Prop}(F:C)(e:C→G:=by (intro F;(repeat' (first|exact Qn|((with_reducible refine Qr ?_ ?_);focus first|with_reducible rfl|(simp only [Zz,Nat.reduceBEq,List.take_zero,eI,List.map_cons,List.map_nil,List.length_cons,List.length_nil,F];done)|rfl)|((with_reducible apply Qj);rfl)|((with_reducible refine Qw ?_ ?_);(focus first|with_reducible rfl|(simp only [Zv,List.take_zero,eI,List.map_cons,List.map_nil,List.length_cons,List.length_nil,F];done));first|exact id|exact nofun|exact fun _=>rfl))))):G:=e F
theorem gw11{G:Prop}(e:G:=by ((repeat' (first|exact Qn|((with_reducible refine Qr ?_ ?_);focus first|with_reducible rfl|(simp only [Zz,Nat.reduceBEq,List.take_zero,List.map_nil,List.append_nil];done)|rfl)|((with_reducible apply Qj);rfl)|((with_reducible refine Qw ?_ ?_);(focus first|with_reducible rfl|(simp only [Zv,List.take_zero,List.map_nil,List.append_nil];done));first|exact id|exact nofun|exact fun _=>rfl))))):G:=e
theorem gw13{G:Prop}(e:G:=by ((repeat' (first|exact Qn|((with_reducible refine Qr ?_ ?_);focus first|with_reducible rfl|(simp only [Zz,Nat.reduceBEq,eI];done)|rfl)|((with_reducible apply Qj);rfl)|((with_reducible refine Qw ?_ ?_);(focus first|with_reducible rfl|(simp only [Zv,eI];done));first|exact id|exact nofun|exact fun _=>rfl))))):G:=e
theorem gw29{G:Prop}(e:G:=by ((repeat' (first|exact Qn|((with_reducible refine Qr ?_ ?_);focus first|with_reducible rfl|(simp only [Zz,Nat.reduceBEq,List.map_nil,List.length_nil];done)|rfl)|((with_reducible apply Qj);rfl)|((with_reducible refine Qw ?_ ?_);(focus first|with_reducible rfl|(simp only [Zv,List.map_nil,List.length_nil];done));first|exact id|exact nofun|exact fun _=>rfl))))):G:=e
theorem gw31{G:Prop}(e:G:=by ((repeat' (first|exact Qn|((with_reducible refine Qr ?_ ?_);focus first|with_reducible rfl|(simp only [Zz,Nat.reduceBEq,eSp,List.length_append,List.length_singleton];done)|rfl)|((with_reducible apply Qj);rfl)|((with_reducible refine Qw ?_ ?_);(focus first|with_reducible rfl|(simp only [Zv,eSp,List.length_append,List.length_singleton];done));first|exact id|exact nofun|exact fun _=>rfl))))):G:=e
theorem gw35{G:Prop}(e:G:=by ((repeat' (first|exact Qn|((with_reducible refine Qr ?_ ?_);focus first|with_reducible rfl|(simp only [Zz,Nat.reduceBEq,St.frz,frzR,frzH,look,AV.frz,AC.frz,drop];done)|rfl)|((with_reducible apply Qj);rfl)|((with_reducible refine Qw ?_ ?_);(focus first|with_reducible rfl|(simp only [Zv,St.frz,frzR,frzH,look,AV.frz,AC.frz,drop];done));first|exact id|exact nofun|exact fun _=>rfl))))):G:=e
theorem gw36{G C:Prop}(F:C)(e:C→G:=by (intro F;(repeat' (first|exact Qn|((with_reducible refine Qr ?_ ?_);focus first|with_reducible rfl|(simp only [Zz,Nat.reduceBEq,List.take_zero,List.map_nil,Int.natCast_zero,F];done)|rfl)|((with_reducible apply Qj);rfl)|((with_reducible refine Qw ?_ ?_);(focus first|with_reducible rfl|(simp only [Zv,List.take_zero,List.map_nil,Int.natCast_zero,F];done));first|exact id|exact nofun|exact fun _=>rfl))))):G:=e F
theorem gw38{G:Prop}(e:G:=by ((repeat' (first|exact Qn|((with_reducible refine Qr ?_ ?_);focus first|with_reducible rfl|(simp only [Zz,Nat.reduceBEq,List.take_zero,List.map_nil,List.append_nil,Int.natCast_zero];done)|rfl)|((with_reducible apply Qj);rfl)|((with_reducible refine Qw ?_ ?_);(focus first|with_reducible rfl|(simp only [Zv,List.take_zero,List.map_nil,List.append_nil,Int.natCast_zero];done));first|exact id|exact nofun|exact fun _=>rfl))))):G:=e
theorem gw40{G:Prop}(e:G:=by ((repeat' (first|exact Qn|((with_reducible refine Qr ?_ ?_);focus first|with_reducible rfl|(simp only [Zz,Nat.reduceBEq,mulS];done)|rfl)|((with_reducible apply Qj);rfl)|((with_reducible refine Qw ?_ ?_);(focus first|with_reducible rfl|(simp only [Zv,mulS];done));first|exact id|exact nofun|exact fun _=>rfl))))):G:=e
theorem gw42{G C:Prop}(F:C)(e:C→G:=by (intro F;(repeat' (first|exact Qn|((with_reducible refine Qr ?_ ?_);focus first|with_reducible rfl|(simp only [Zz,Nat.reduceBEq,List.take_zero,List.map_nil,gath_one,List.map_cons,eSp,Int.natCast_zero,F];done)|rfl)|((with_reducible apply Qj);rfl)|((with_reducible refine Qw ?_ ?_);(focus first|with_reducible rfl|(simp only [Zv,List.take_zero,List.map_nil,gath_one,List.map_cons,eSp,Int.natCast_zero,F];done));first|exact id|exact nofun|exact fun _=>rfl))))):G:=e F
theorem gw45{G:Prop}(e:G:=by ((repeat' (first|exact Qn|((with_reducible refine Qr ?_ ?_);focus first|with_reducible rfl|(simp only [Zz,Nat.reduceBEq,List.take_zero,List.foldl_nil,List.map_nil,List.map_cons,eSp,eL,Int.natCast_zero];done)|rfl)|((with_reducible apply Qj);rfl)|((with_reducible refine Qw ?_ ?_);(focus first|with_reducible rfl|(simp only [Zv,List.take_zero,List.foldl_nil,List.map_nil,List.map_cons,eSp,eL,Int.natCast_zero];done));first|exact id|exact nofun|exact fun _=>rfl))))):G:=e
theorem gw47{G:Prop}(e:G:=by ((repeat' (first|exact Qn|((with_reducible refine Qr ?_ ?_);focus first|with_reducible rfl|(simp only [Zz,Nat.reduceBEq,rootS];done)|rfl)|((with_reducible apply Qj);rfl)|((with_reducible refine Qw ?_ ?_);(focus first|with_reducible rfl|(simp only [Zv,rootS];done));first|exact id|exact nofun|exact fun _=>rfl))))):G:=e
theorem gw49{G:Prop}(e:G:=by ((repeat' (first|exact Qn|((with_reducible refine Qr ?_ ?_);focus first|with_reducible rfl|(simp only [Zz,Nat.reduceBEq,List.drop_zero,List.map_nil,List.nil_append,Int.natCast_zero];done)|rfl)|((with_reducible apply Qj);rfl)|((with_reducible refine Qw ?_ ?_);(focus first|with_reducible rfl|(simp only [Zv,List.drop_zero,List.map_nil,List.nil_append,Int.natCast_zero];done));first|exact id|exact nofun|exact fun _=>rfl))))):G:=e
theorem gw50{G:Prop}(e:G:=by ((repeat' (first|exact Qn|((with_reducible refine Qr ?_ ?_);focus first|with_reducible rfl|(simp only [Zz,Nat.reduceBEq,List.map_nil,List.length_nil,Int.natCast_zero];done)|rfl)|((with_reducible apply Qj);rfl)|((with_reducible refine Qw ?_ ?_);(focus first|with_reducible rfl|(simp only [Zv,List.map_nil,List.length_nil,Int.natCast_zero];done));first|exact id|exact nofun|exact fun _=>rfl))))):G:=e
theorem gw52{G:Prop}(e:G:=by ((repeat' (first|exact Qn|((with_reducible refine Qr ?_ ?_);focus first|with_reducible rfl|(simp only [Zz,Nat.reduceBEq,eSpT,List.map_nil];done)|rfl)|((with_reducible apply Qj);rfl)|((with_reducible refine Qw ?_ ?_);(focus first|with_reducible rfl|(simp only [Zv,eSpT,List.map_nil];done));first|exact id|exact nofun|exact fun _=>rfl))))):G:=e
theorem gw54{G:Prop}(e:G:=by ((repeat' (first|exact Qn|((with_reducible refine Qr ?_ ?_);focus first|with_reducible rfl|(simp only [Zz,Nat.reduceBEq,eSpT];done)|rfl)|((with_reducible apply Qj);rfl)|((with_reducible refine Qw ?_ ?_);(focus first|with_reducible rfl|(simp only [Zv,eSpT];done));first|exact id|exact nofun|exact fun _=>rfl))))):G:=e
theorem gw55{G C:Prop}(F:C)(e:C→G:=by (intro F;(repeat' (first|exact Qn|((with_reducible refine Qr ?_ ?_);focus first|with_reducible rfl|(simp only [Zz,Nat.reduceBEq,List.take_zero,List.length_map,F];done)|rfl)|((with_reducible apply Qj);rfl)|((with_reducible refine Qw ?_ ?_);(focus first|with_reducible rfl|(simp only [Zv,List.take_zero,List.length_map,F];done));first|exact id|exact nofun|exact fun _=>rfl))))):G:=e F
theorem gw57{G:Prop}(e:G:=by ((repeat' (first|exact Qn|((with_reducible refine Qr ?_ ?_);focus first|with_reducible rfl|(simp only [Zz,Nat.reduceBEq,List.take_zero,List.flatten_nil,List.map_nil,List.length_map];done)|rfl)|((with_reducible apply Qj);rfl)|((with_reducible refine Qw ?_ ?_);(focus first|with_reducible rfl|(simp only [Zv,List.take_zero,List.flatten_nil,List.map_nil,List.length_map];done));first|exact id|exact nofun|exact fun _=>rfl))))):G:=e
theorem gw59{G C:Prop}(F:C)(e:C→G:=by (intro F;(repeat' (first|exact Qn|((with_reducible refine Qr ?_ ?_);focus first|with_reducible rfl|(simp only [Zz,Nat.reduceBEq,List.take_zero,List.map_nil,List.map_cons,eS0,List.length_singleton,Int.natCast_zero,F];done)|rfl)|((with_reducible apply Qj);rfl)|((with_reducible refine Qw ?_ ?_);(focus first|with_reducible rfl|(simp only [Zv,List.take_zero,List.map_nil,List.map_cons,eS0,List.length_singleton,Int.natCast_zero,F];done));first|exact id|exact nofun|exact fun _=>rfl))))):G:=e F
theorem gw61{G:Prop}(e:G:=by ((repeat' (first|exact Qn|((with_reducible refine Qr ?_ ?_);focus first|with_reducible rfl|(simp only [Zz,Nat.reduceBEq,List.take_zero,List.flatMap_nil,List.map_nil,List.length_nil,Int.natCast_zero];done)|rfl)|((with_reducible apply Qj);rfl)|((with_reducible refine Qw ?_ ?_);(focus first|with_reducible rfl|(simp only [Zv,List.take_zero,List.flatMap_nil,List.map_nil,List.length_nil,Int.natCast_zero];done));first|exact id|exact nofun|exact fun _=>rfl))))):G:=e
theorem gw63{G:Prop}(e:G:=by ((repeat' (first|exact Qn|((with_reducible refine Qr ?_ ?_);focus first|with_reducible rfl|(simp only [Zz,Nat.reduceBEq,eS0,catS];done)|rfl)|((with_reducible apply Qj);rfl)|((with_reducible refine Qw ?_ ?_);(focus first|with_reducible rfl|(simp only [Zv,eS0,catS];done));first|exact id|exact nofun|exact fun _=>rfl))))):G:=e
theorem gw64{G:Prop}(e:G:=by ((repeat' (first|exact Qn|((with_reducible refine Qr ?_ ?_);focus first|with_reducible rfl|(simp only [Zz,Nat.reduceBEq,List.take_zero,List.drop_zero,List.map_nil,List.nil_append,Int.natCast_zero];done)|rfl)|((with_reducible apply Qj);rfl)|((with_reducible refine Qw ?_ ?_);(focus first|with_reducible rfl|(simp only [Zv,List.take_zero,List.drop_zero,List.map_nil,List.nil_append,Int.natCast_zero];done));first|exact id|exact nofun|exact fun _=>rfl))))):G:=e
theorem gw67{G:Prop}(e:G:=by ((refine Ends.mk (by simp) (rs:=?_) (ks:=?_) hres hrts ?_ ?_ ?_;rotate_left 2;(focus (simp only [Ze,Zg,Zi,seval,List.map_append,List.map_map,Function.comp_def,eS0,List.map_cons,List.map_nil,eL,rootS];with_reducible rfl));(focus simp);focus (first|with_reducible rfl|(simp only [Zv,List.map_append,List.map_map,Function.comp_def,eS0,List.map_cons,List.map_nil,eL,rootS];done))))):G:=e
theorem gw72{G:Prop}(e:G:=by ((repeat' (first|exact Qn|((with_reducible refine Qr ?_ ?_);focus first|with_reducible rfl|(simp only [Zz,Nat.reduceBEq,e3T,List.map_nil,List.length_append,List.length_singleton];done)|rfl)|((with_reducible apply Qj);rfl)|((with_reducible refine Qw ?_ ?_);(focus first|with_reducible rfl|(simp only [Zv,e3T,List.map_nil,List.length_append,List.length_singleton];done));first|exact id|exact nofun|exact fun _=>rfl))))):G:=e
theorem gw75{G C:Prop}(F:C)(e:C→G:=by (intro F;(repeat' (first|exact Qn|((with_reducible refine Qr ?_ ?_);focus first|with_reducible rfl|(simp only [Zz,Nat.reduceBEq,List.take_zero,List.map_nil,List.length_singleton,Int.natCast_zero,Int.natCast_one,F];done)|rfl)|((with_reducible apply Qj);rfl)|((with_reducible refine Qw ?_ ?_);(focus first|with_reducible rfl|(simp only [Zv,List.take_zero,List.map_nil,List.length_singleton,Int.natCast_zero,Int.natCast_one,F];done));first|exact id|exact nofun|exact fun _=>rfl))))):G:=e F
theorem gw87{G C:Prop}(F:C)(e:C→G:=by (intro F;(repeat' (first|exact Qn|((with_reducible refine Qr ?_ ?_);focus first|with_reducible rfl|(simp only [Zz,Nat.reduceBEq,Int.natCast_zero,F];done)|rfl)|((with_reducible apply Qj);rfl)|((with_reducible refine Qw ?_ ?_);(focus first|with_reducible rfl|(simp only [Zv,Int.natCast_zero,F];done));first|exact id|exact nofun|exact fun _=>rfl))))):G:=e F
theorem gw89{G C:Prop}(F:C)(e:C→G:=by (intro F;(repeat' (first|exact Qn|((with_reducible refine Qr ?_ ?_);focus first|with_reducible rfl|(simp only [Zz,Nat.reduceBEq,List.take_zero,Int.natCast_zero,F];done)|rfl)|((with_reducible apply Qj);rfl)|((with_reducible refine Qw ?_ ?_);(focus first|with_reducible rfl|(simp only [Zv,List.take_zero,Int.natCast_zero,F];done));first|exact id|exact nofun|exact fun _=>rfl))))):G:=e F
theorem gw91{G:Prop}(e:G:=by ((repeat' (first|exact Qn|((with_reducible refine Qr ?_ ?_);focus first|with_reducible rfl|(simp only [Zz,Nat.reduceBEq];done)|rfl)|((with_reducible apply Qj);rfl)|((with_reducible refine Qw ?_ ?_);(focus first|with_reducible rfl|(simp only [Zv];done));first|exact id|exact nofun|exact fun _=>rfl)));(all_goals (first|exact ⟨rfl,rfl⟩|exact ⟨rfl,rfl,id⟩|exact ⟨rfl,rfl,rfl,rfl⟩)))):G:=e
theorem gw92{G:Prop}(e:G:=by ((repeat' (first|exact Qn|((with_reducible refine Qr ?_ ?_);focus first|with_reducible rfl|(simp only [Zz,Nat.reduceBEq,List.map_append,List.map_cons,List.map_nil,List.length_append,List.length_singleton,eI];done)|rfl)|((with_reducible apply Qj);rfl)|((with_reducible refine Qw ?_ ?_);(focus first|with_reducible rfl|(simp only [Zv,List.map_append,List.map_cons,List.map_nil,List.length_append,List.length_singleton,eI];done));first|exact id|exact nofun|exact fun _=>rfl)));(all_goals (first|exact ⟨rfl,rfl⟩|exact ⟨rfl,rfl,id⟩|exact ⟨rfl,rfl,rfl,rfl⟩)))):G:=e
theorem gw93{G:Prop}(e:G:=by ((refine EndsP.mk (by simp) (rs:=?_) (ks:=?_) (xs':=?_) hres hrts ?_ ?_ ?_ ?_ ?_;rotate_left 3;(focus (simp only [Ze,Zg,Zi,seval];with_reducible rfl));(focus simp);(focus simp);(focus (simp only [look,Nat.reduceEqDiff,Nat.reduceBEq,if_true,if_false];rfl));focus (first|exact ⟨rfl,rfl⟩|exact ⟨rfl,rfl,rfl⟩|skip)))):G:=e
theorem gw95{G:Prop}(e:G:=by ((repeat' (first|exact Qn|((with_reducible refine Qr ?_ ?_);focus first|with_reducible rfl|(simp only [Zz,Nat.reduceBEq,Nat.add_zero,List.replicate_zero,List.append_nil,Int.natCast_zero];done)|rfl)|((with_reducible apply Qj);rfl)|((with_reducible refine Qw ?_ ?_);(focus first|with_reducible rfl|(simp only [Zv,Nat.add_zero,List.replicate_zero,List.append_nil,Int.natCast_zero];done));first|exact id|exact nofun|exact fun _=>rfl)));(all_goals (first|exact ⟨rfl,rfl⟩|exact ⟨rfl,rfl,id⟩|exact ⟨rfl,rfl,rfl,rfl⟩)))):G:=e
theorem gw97{G:Prop}(e:G:=by ((repeat' (first|exact Qn|((with_reducible refine Qr ?_ ?_);focus first|with_reducible rfl|(simp only [Zz,Nat.reduceBEq,List.map_nil,List.length_nil];done)|rfl)|((with_reducible apply Qj);rfl)|((with_reducible refine Qw ?_ ?_);(focus first|with_reducible rfl|(simp only [Zv,List.map_nil,List.length_nil];done));first|exact id|exact nofun|exact fun _=>rfl)));(all_goals (first|exact ⟨rfl,rfl⟩|exact ⟨rfl,rfl,id⟩|exact ⟨rfl,rfl,rfl,rfl⟩|exact ⟨rfl,rfl,fun h => nomatch h⟩)))):G:=e
theorem gw99{G:Prop}(e:G:=by ((repeat' (first|exact Qn|((with_reducible refine Qr ?_ ?_);focus first|with_reducible rfl|(simp only [Zz,Nat.reduceBEq,List.map_cons,List.map_nil,eL,List.length_singleton];done)|rfl)|((with_reducible apply Qj);rfl)|((with_reducible refine Qw ?_ ?_);(focus first|with_reducible rfl|(simp only [Zv,List.map_cons,List.map_nil,eL,List.length_singleton];done));first|exact id|exact nofun|exact fun _=>rfl)));(all_goals (first|exact ⟨rfl,rfl⟩|exact ⟨rfl,rfl,id⟩|exact ⟨rfl,rfl,rfl,rfl⟩|exact ⟨rfl,rfl,fun h => nomatch h⟩)))):G:=e
theorem gw101{G:Prop}(e:G:=by ((repeat' (first|exact Qn|((with_reducible refine Qr ?_ ?_);focus first|with_reducible rfl|(simp only [Zz,Nat.reduceBEq,List.map_append,List.map_cons,List.map_nil,eL,List.length_append,List.length_singleton];done)|rfl)|((with_reducible apply Qj);rfl)|((with_reducible refine Qw ?_ ?_);(focus first|with_reducible rfl|(simp only [Zv,List.map_append,List.map_cons,List.map_nil,eL,List.length_append,List.length_singleton];done));first|exact id|exact nofun|exact fun _=>rfl)));(all_goals (first|exact ⟨rfl,rfl⟩|exact ⟨rfl,rfl,id⟩|exact ⟨rfl,rfl,rfl,rfl⟩|exact ⟨rfl,rfl,fun h => nomatch h⟩)))):G:=e
theorem gw109{G C:Prop}(F:C)(e:C→G:=by (intro F;(repeat' (first|exact Qn|((with_reducible refine Qr ?_ ?_);focus first|with_reducible rfl|(simp only [Zz,Nat.reduceBEq,List.map_nil,List.length_nil,Int.natCast_zero,F];done)|rfl)|((with_reducible apply Qj);rfl)|((with_reducible refine Qw ?_ ?_);(focus first|with_reducible rfl|(simp only [Zv,List.map_nil,List.length_nil,Int.natCast_zero,F];done));first|exact id|exact nofun|exact fun _=>rfl)));(all_goals (first|exact ⟨rfl,rfl⟩|exact ⟨rfl,rfl,id⟩|exact ⟨rfl,rfl,fun h => nomatch h⟩)))):G:=e F
theorem gw110{G:Prop}(e:G:=by ((repeat' (first|exact Qn|((with_reducible refine Qr ?_ ?_);focus first|with_reducible rfl|(simp only [Zz,Nat.reduceBEq];done)|rfl)|((with_reducible apply Qj);rfl)|((with_reducible refine Qw ?_ ?_);(focus first|with_reducible rfl|(simp only [Zv];done));first|exact id|exact nofun|exact fun _=>rfl)));(all_goals (first|exact ⟨rfl,rfl⟩|exact ⟨rfl,rfl,id⟩|exact ⟨rfl,rfl,fun h => nomatch h⟩)))):G:=e
theorem gw112{G:Prop}(e:G:=by ((repeat' (first|exact Qn|((with_reducible refine Qr ?_ ?_);focus first|with_reducible rfl|(simp only [Zz,Nat.reduceBEq,St.frz,frzR,frzH,look,AV.frz,AC.frz,Obj.frz,drop];done)|rfl)|((with_reducible apply Qj);rfl)|((with_reducible refine Qw ?_ ?_);(focus first|with_reducible rfl|(simp only [Zv,St.frz,frzR,frzH,look,AV.frz,AC.frz,Obj.frz,drop];done));first|exact id|exact nofun|exact fun _=>rfl)));(all_goals (first|exact ⟨rfl,rfl⟩|exact ⟨rfl,rfl,id⟩|exact ⟨rfl,rfl,fun h => nomatch h⟩)))):G:=e
theorem gw114{G C:Prop}(F:C)(e:C→G:=by (intro F;(repeat' (first|exact Qn|((with_reducible refine Qr ?_ ?_);focus first|with_reducible rfl|(simp only [Zz,Nat.reduceBEq,Int.natCast_zero,F];done)|rfl)|((with_reducible apply Qj);rfl)|((with_reducible refine Qw ?_ ?_);(focus first|with_reducible rfl|(simp only [Zv,Int.natCast_zero,F];done));first|exact id|exact nofun|exact fun _=>rfl)));(all_goals (first|exact ⟨rfl,rfl⟩|exact ⟨rfl,rfl,id⟩|exact ⟨rfl,rfl,fun h => nomatch h⟩)))):G:=e F
theorem a_l01Own2 (f:List (List Int)) (hl:f.length ≤ 1000) (hs:∀ b ∈ f,b.length ≤ 1000):AFn Tryz.prog 67 [eLL f] (· = [.own 1 (f.map eL) false]):=by
 refine AFn.of_runs (qX 21) Tryz.func67 rfl rfl rfl gz ?_
 have hres:Tryz.f67.results.toList = [.tmp 2]:=rfl
 have hrts:Tryz.f67.resultTypes.toList = [36]:=rfl
 simp only [qK,qA,eL,eI,eLL,eB,Nat.zero_add,Nat.reduceAdd]
 intro M
 refine qQ.of ?_
 refine gw1 (kk 5) ?_
 refine qQ.loop (β:=Nat) (γ:=Unit) (fun i => ⟨[(0,.c (.val (.sl 1 (f.map eL)))),(3,.c (.own 3 (f.take i).length)),(4,.c (.val (.int i)))],[(3,.row 1 ((f.take i).map eL) false)]⟩) (fun i => i ≤ f.length) (fun i => f.length - i)
  (fun _ => ⟨[(3,.c (.own 3 f.length))],[(3,.row 1 (f.map eL) false)]⟩) (fun _ => True) 0 (Nat.zero_le _) ?_ ?_ ?_
 ·exact gw2
 ·intro i hi
  have hi:i ≤ f.length:=hi
  have hw:=qI (n:=i) (by omega)
  by_cases h:i < f.length
  ·have i1:((i:Int) < (f.length:Int)) = True:=eq_true (by omega)
   have i2:((0:Int) ≤ (i:Int)) = True:=eq_true (by omega)
   obtain ⟨t,ht⟩:∃ t,t = f[i]:=⟨_,rfl⟩
   have hg:(f.map eL)[i]? = some [.sl 1 (t.map eI)]:=by rw [qP h,ht];rfl
   have htl:t.length ≤ 1000:=hs t (by rw [ht];exact List.getElem_mem h)
   have how:=a_l01Own t (by omega)
   simp only [eL] at how
   have htk:f.take (i + 1) = f.take i ++ [t]:=by rw [ht];exact List.take_succ_eq_append_getElem h
   have hil:(f.take i).length = i:=by rw [List.length_take];omega
   have q1:=jS (n:=(f.take i).length + 1) (by omega)
   have q2:=jO (n:=(f.take i).length + 1) (c:=24) (by omega) (by omega)
   refine gw3 (kk 5) (Y6 i1 i2 hg hw q1 q2) ?_
   refine qW.on (i + 1) ⟨h,by omega⟩ ?_
   rw [htk]
   exact gw4
  ·have i1:((i:Int) < (f.length:Int)) = False:=eq_false (by omega)
   obtain rfl:i = f.length:=by omega
   rw [List.take_length]
   refine gw5 (kk 5) i1 ?_
   refine qW.out () trivial ?_
   exact gw6
 ·rintro _ _
  refine gw7 (kk 5) Y0 ?_
  exact gw8
theorem sortC_take_succ' {c:List Int→List Int→Int} {t:List (List Int)} (k:Nat) (h:k < t.length):sortC c (t.take (k + 1)) = ins c t[k] (sortC c (t.take k)):=by
 rw [List.take_succ_eq_append_getElem h,sortC_snoc]
theorem own_step {W:World} {ops:Array Oper} {o:Oper} {a:Act} {K:Act→World→Prop} {Q:Exit→Act→World→Prop} {E:Prop} (hgd:o.guard = none) (args:Array Operand) (ts:Array TypeId)
  (ho:o.op = .call { callee:=.value (.func 133),args:=args,argTypes:=ts }) (v:Value) (x:List Int) (hv:args.map a.eval = #[v]) (wb:World) (hW:W.heap = wb.heap) (hr:Rd (RS RI) wb [v] x) (hxl:x.length ≤ 1000000000)
  (h:∀ ou cu w2,Own (RS RI) wb.heap.size w2.heap.size w2 [.slice ou x.length cu] x→Below wb.heap.size W w2→wb.heap.size ≤ w2.heap.size→K (a.put o.dst (.slice ou x.length cu)) w2) :
  if Region.wanted o (yielded ops a.tmps) = true then Oper.wp Tryz.prog o a W K Q else E:=by
 refine step_call hgd 133 args ts ho (enters (P:=Tryz.prog) (f:=133) Tryz.func133 (by kernel_rfl) rfl) #[v] hv ?_
 refine (yG0 v x W (hr.of_heap hW) hxl).mono ?_
 rintro e w2 ⟨u,rfl,o2,b2⟩
 obtain ⟨ou,cu,rfl,_⟩:=o2.val
 rw [hW] at o2 b2
 exact ⟨_,rfl,h ou cu w2 o2 b2 (by have:=b2.size;rw [hW] at this;exact this)⟩
theorem c_spec_l03Sort (v:Value) (bs:List (List Int)) (w:World) (h:Rd (RS (RS RI)) w [v] bs) (hsz:bs.length ≤ 1000000) (hsl:∀ b ∈ bs,b.length ≤ 1000000000) :
  Calls Tryz.prog 187 #[v] w (RetO (RS (RS RI)) w (forest bs)):=by
 obtain ⟨oa,cap,L⟩:=h.lists
 obtain rfl:=L.val
 have m1:=L.le;have m2:=L.capLe
 have HL:=Lib.hid L
 have HS:=Lib.hid hsl
 have EGL:=Lib.hid (enters (P:=Tryz.prog) (f:=133) Tryz.func133 (by kernel_rfl) rfl)
 clear L h hsl
 go_enter Tryz.func187,Tryz.ntmps187
 go_wp2_with fail
 go_loopw [3,4] (fun o i wr => ∃ (k:Nat) (ys:List (List Int)),k ≤ bs.length∧i = .int .i64 k∧Hid (ys = sortC cmpT (bs.take k))∧Hid (ys.length = k)∧(∃ g cap,o = .slice (some ⟨g,0,none⟩) ys.length cap)∧Hid (Own (RS (RS RI)) w.heap.size wr.heap.size wr [o] ys)∧Below w.heap.size w wr) (fun _ i _ => bs.length - (intOf i).toNat)
 case atStart => exact ⟨0,[],Nat.zero_le _,rfl,Lib.hid (by simp [sortC]),Lib.hid rfl,⟨_,_,rfl⟩,Lib.hid ((Own.empty (R:=RS RI) (w:=w) 24 w.heap.size (Nat.le_refl _)).top _ (by simp)),(Below.refl _ _).alloc (Nat.le_refl _) _⟩
 case round =>
  obtain ⟨k,ys,hk,rfl,hys,Hyl,⟨g0,cap0,rfl⟩,hown,hbel⟩:=hrel
  have hsz2:=hbel.size
  obtain ⟨wo,hwo⟩:∃ wo:World,wo = wr:=⟨_,rfl⟩
  subst hwo
  by_cases hlt:k < bs.length
  ·obtain ⟨b,off,rfl,hb,hc⟩:=HL.out.get hlt
   obtain ⟨oi,ci,g1,hrd,q1,q2⟩:=hc k hlt
   have g2:wo.cell? ⟨b,off + k,none⟩ = some (.slice oi bs[k].length ci):=(hbel.cell (p:=⟨b,off + k,none⟩) hb).trans g1
   have hst:=sortC_take_succ' (c:=cmpT) k hlt
   rw [← hys.out] at hst
   obtain ⟨x,hx⟩:∃ x,x = bs[k]:=⟨_,rfl⟩
   have hxl:x.length ≤ 1000000000:=by rw [hx];exact HS.out _ (List.getElem_mem hlt)
   rw [← hx] at g2 hrd q1 hst
   have HST:=Lib.hid hst
   have HR:=Lib.hid (hrd.below hbel (Nat.le_refl _))
   have HOO:Hid (∀ (W' w2:World),W'.heap = wo.heap→Below wo.heap.size W' w2→Own (RS (RS RI)) w.heap.size wo.heap.size w2 [.slice (some ⟨g0,0,none⟩) ys.length cap0] ys):=Lib.hid (fun W' w2 e b => (hown.out.of_heap e).below b (Nat.le_refl _))
   have ik1:(0:Int) ≤ (k:Int):=by omega
   have ik2:(k:Int) < (bs.length:Int):=by omega
   clear hst hc g1 hx hrd
   go_wp2_with fail
   go_loopw [5] (fun i wr => ∃ (j:Nat),j ≤ ys.length∧i = .int .i64 j∧Hid (∀ q (h:q < ys.length),q < j→¬ cmpT x ys[q] < 0)∧∃ n,wr = wo.drewN n) (fun i _ => ys.length - (intOf i).toNat)
   case atStart => exact ⟨0,Nat.zero_le _,rfl,Lib.hid (fun q _ h => by omega),0,rfl⟩
   case round =>
    obtain ⟨j,hj,rfl,hall,nd,rfl⟩:=hrel
    have HO3:Hid (Own (RS (RS RI)) w.heap.size wo.heap.size (wo.drewN nd) [.slice (some ⟨g0,0,none⟩) ys.length cap0] ys):=hown.out.of_heap rfl
    have g3:(wo.drewN nd).cell? ⟨b,off + k,none⟩ = some (.slice oi x.length ci):=g2
    have hyb:ys.length ≤ 1000000:=by rw [Hyl.out];omega
    have hle4:=hown.out.val
    obtain ⟨_,_,ev,le4,_⟩:=hle4
    simp only [Value.slice.injEq,true_and] at ev
    obtain ⟨rfl,rfl⟩:=ev
    by_cases hjl:j < ys.length
    ·obtain ⟨g',cap',h0,hv,q1',q2',hg1',hg2',hcell,hel⟩:=HO3.out.elem j hjl
     simp only [Value.slice.injEq,true_and] at hv
     obtain ⟨e1,e2⟩:=hv
     simp only [Option.some.injEq,Addr.mk.injEq,and_true] at e1
     subst e1;subst e2
     obtain ⟨oj,cj,rfl,_⟩:=hel.val
     have hls:∀ a,Calls Tryz.prog 129 #[.slice oi x.length ci,.slice oj ys[j].length cj] (wo.drewN (nd + a)) (RetQ (wo.drewN (nd + a)) (.bool (decide (cmpT x ys[j] < 0)))):=fun a => yV0 _ _ x ys[j] _ (HR.out.of_heap rfl) (hel.rd.of_heap rfl)
     obtain ⟨yl,hyl'⟩:∃ yl,yl = ys[j].length:=⟨_,rfl⟩
     rw [← hyl'] at hls hcell
     replace hcell:wo.cell? ⟨g0,j,none⟩ = some (.slice oj yl cj):=hcell
     have ij1:(0:Int) ≤ (j:Int):=by omega
     have ij2:(j:Int) < (ys.length:Int):=by omega
     have ij3:decide ((j:Int) < (ys.length:Int)) = true:=decide_eq_true ij2
     clear hel hyl'
     by_cases hle:cmpT x ys[j] < 0
     ·have hd:decide (cmpT x ys[j] < 0) = true:=decide_eq_true hle
      rw [hd] at hls
      have HLS:=Lib.hid hls
      have HE:Hid (ins cmpT x ys = ys.take j ++ x :: ys.drop j):=Lib.hid (ins_at hj hall.out (fun _ => hle))
      clear hd hle hls
      go_wp2_with fail
      go_quiet ((go_at_call 129;exact Calls.qQ' (HLS.out _)))
      clear HLS hcell
      have hcj:¬ cap0 = j:=by omega
      go_wp2_with fail
      go_region_law (first
       | (refine own_step rfl _ _ rfl (.slice oi x.length ci) x (by simp [Act.eval]) wo (by rfl) HR.out hxl ?_;intro ou cu w2 o2 b2 hsz5;have HO4:=HOO.out _ _ (by rfl) b2;obtain ⟨d1,d2,t1l,t2l,t1,t2,t3,hcl,hmk⟩:=HO4.insRow (R:=RS RI) rfl hsz5 hsz2 o2 j hj;rw [← HE.out,← HST.out] at hmk;have T1L:=Lib.hid t1l;have T2L:=Lib.hid t2l;have hbel4:Below w.heap.size w w2:=(hbel.trans (Below.drewN _ _ _)).trans (b2.mono hsz2);clear t1l t2l o2 HO4)
       | (refine step_appendS rfl _ _ 36 rfl 24 (.slice none 0 0) 1 24 tI64S (.slice (some ⟨w2.heap.size,0,none⟩) 1 1) 1 [.slice ou x.length cu] (some w2.heap.size) rfl (by simpa using Row.lit w2 #[.slice ou x.length cu] 24 1 1 (by decide) (by simp)) _ _ _ d2 rfl (by have:=T2L.out;omega) (by intro h;cases h) (by intro a ha i u hi;cases ha;rw [Addr.add_lit];exact (hcl (w2.alloc _) ((Below.refl _ _).alloc (Nat.le_refl _) _)).2 i u hi) t2 (by have:=T2L.out;omega) (by have:=T2L.out;unfold maxLen;omega) ?_;intro vA wA ogA happA))
      all_goals
       replace happA:jR (w2.alloc (.cells #[.slice ou x.length cu] 24)) wA vA 1 (1 + d2.length) ([.slice ou x.length cu] ++ d2) (some w2.heap.size) ogA:=by have e:=T2L.out;first|exact happA|(rw [e];simpa using happA)
       obtain ⟨oA,capA,rfl,pA1,pA2⟩:=happA.1.val
       unfold maxLen at pA2
       have lowA:=happA.low (B:=(w2).heap.size) (by simp) (fun g hg => by cases hg;exact Nat.le_refl _)
       have belA:Below (w2).heap.size (w2) wA:=((Below.refl _ _).alloc (Nat.le_refl _) _).trans lowA.2
       have sA:=belA.size
       have HA:=Lib.hid happA.1
       have HogA:=Lib.hid lowA.1
       have CA:=(hcl wA belA).1
       clear happA lowA
       go_wp2_with (at_builtin;refine yP (o:=⟨some 46,_,_,_,_,_⟩) ?_)
       refine jY.go ?_
       refine xJ rfl _ _ 36 rfl 24 (.slice none 0 0) 1 24 tI64S (.slice (some ⟨wA.heap.size,0,none⟩) 0 0) 0 [] (some wA.heap.size) rfl (by simpa using Row.lit wA #[] 24 1 0 (by decide) (by simp)) (some ⟨g0,0,none⟩) j _ d1 rfl (by have:=T1L.out;omega) (fun h => by cases h) (by intro a ha i u hi;cases ha;rw [Addr.add_lit,Nat.zero_add];have:=(hcl (wA.alloc (.cells #[] 24)) (belA.alloc sA _)).1 i u hi;exact this) t1 (by have:=T1L.out;omega) (by unfold maxLen;omega) ?_
       intro vB wB ogB happB
       rw [Nat.zero_add,List.nil_append] at happB
       obtain ⟨oB,capB,rfl,pB1,pB2⟩:=happB.1.val
       unfold maxLen at pB2
       have lowB:=happB.low (B:=(w2).heap.size) (Nat.le_trans sA (by simp)) (fun g hg => by cases hg;exact sA)
       have lowB2:=happB.low (B:=wA.heap.size) (by simp) (fun g hg => by cases hg;exact Nat.le_refl _)
       have belB2:Below wA.heap.size wA wB:=((Below.refl _ _).alloc (Nat.le_refl _) _).trans lowB2.2
       have belB:Below (w2).heap.size (w2) wB:=belA.trans (belB2.mono sA)
       have sB:=belB.size
       have hrA:Row wB (.slice oA (1 + d2.length) capA) 1 (1 + d2.length) ([(.slice ou x.length cu)] ++ d2) ogA:=HA.out.frame (fun g hg => belB2.block g (HA.out.lt g hg))
       obtain ⟨gA,hgA⟩:=hrA.some_of (j:=0) (by omega)
       subst hgA
       obtain ⟨oA',cA',eA,_,_,_,eA2⟩:=hrA.value
       simp only [Value.slice.injEq,true_and] at eA
       obtain ⟨rfl,rfl⟩:=eA
       simp only [Option.map_some] at eA2
       subst eA2
       have HRA:=Lib.hid hrA
       have HB:=Lib.hid happB.1
       have HogB:=Lib.hid lowB.1
       clear hrA happB lowB lowB2 CA
       go_wp2_with (at_builtin;refine yP (o:=⟨some 48,_,_,_,_,_⟩) ?_)
       refine jY.go ?_
       refine xJ rfl _ _ 36 rfl 24 (.slice none 0 0) 1 24 tI64S (.slice oB j capB) j d1 ogB rfl HB.out (some ⟨gA,0,none⟩) _ _ ([(.slice ou x.length cu)] ++ d2) rfl (by simp <;> omega) (fun h => by cases h) (by intro a ha i u hi;cases ha;rw [Addr.add_lit,Nat.zero_add];exact HRA.out.cells i u hi) (fun u hu => (List.mem_append.1 hu).elim (fun h => by simp at h;subst h;exact t3) (t2 u)) (by have:=T2L.out;omega) (by have:=T2L.out;unfold maxLen;omega) ?_
       intro vC wC ogC happC
       have lowC:=happC.low (B:=(w2).heap.size) sB HogB.out
       have belC:Below (w2).heap.size (w2) wC:=belB.trans lowC.2
       have hrC:=happC.1
       have eN:j + (1 + d2.length) = ys.length + 1:=by have:=T1L.out;have:=T2L.out;omega
       rw [eN,List.singleton_append] at hrC
       have hfin:=hmk wC vC ogC belC hrC lowC.1
       obtain ⟨gC,hgC⟩:=hrC.some_of (j:=0) (by omega)
       subst hgC
       obtain ⟨capC,hvC,_,_⟩:=hrC.slice
       subst hvC
       have HFIN:=Lib.hid hfin
       clear hfin hrC happC lowC HA HB HRA HogA HogB eN
       have hfl:(sortC cmpT (bs.take (k + 1))).length = ys.length + 1:=by rw [kV];simp;rw [Hyl.out];omega
       obtain ⟨zs,hzs⟩:∃ zs,zs = sortC cmpT (bs.take (k + 1)):=⟨_,rfl⟩
       rw [← hzs] at HFIN hfl
       have hkz:zs.length = k + 1:=by rw [hfl,Hyl.out]
       rw [← hfl] at HFIN
       rw [← hfl]
       have HZ:=Lib.hid hzs
       have HKZ:=Lib.hid hkz
       clear hzs hfl hkz
       go_wp2_with fail
       go_roundw
       case rel => exact ⟨k + 1,zs,by omega,by go_num,HZ,HKZ,⟨_,_,rfl⟩,HFIN,hbel4.trans (belC.mono (Nat.le_trans hsz2 hsz5))⟩
       case measure => simp [intOf];omega
     ·have hd:decide (cmpT x ys[j] < 0) = false:=decide_eq_false hle
      rw [hd] at hls
      have HLS:=Lib.hid hls
      have HN:Hid (¬ cmpT x ys[j] < 0):=Lib.hid hle
      clear hd hle hls
      go_wp2_with fail
      go_quiet ((go_at_call 129;exact Calls.qQ' (HLS.out _)))
      go_wp2_with fail
      go_roundw
      case rel =>
       refine ⟨j + 1,by omega,by go_num,Lib.hid (fun q h hq => ?_),(by first|exact yD _ _|exact yF _ _ _|exact drewN3 _ _ _ _)⟩
       by_cases hqj:q = j
       ·subst hqj;have:=HN.out;omega
       ·have:=hall.out q h (by omega);omega
      case measure => simp [intOf];omega
    ·obtain rfl:j = ys.length:=by omega
     have HE:Hid (ins cmpT x ys = ys.take ys.length ++ x :: ys.drop ys.length):=Lib.hid (ins_at hj hall.out (fun h => by omega))
     have ij3:decide ((ys.length:Int) < (ys.length:Int)) = false:=by simp
     go_wp2_with fail
     go_quiet (fail)
     by_cases hcj:cap0 = ys.length
     all_goals
      go_wp2_with fail
      go_region_law (first
       | (refine own_step rfl _ _ rfl (.slice oi x.length ci) x (by simp [Act.eval]) wo (by rfl) HR.out hxl ?_;intro ou cu w2 o2 b2 hsz5;have HO4:=HOO.out _ _ (by rfl) b2;obtain ⟨d1,d2,t1l,t2l,t1,t2,t3,hcl,hmk⟩:=HO4.insRow (R:=RS RI) rfl hsz5 hsz2 o2 ys.length hj;rw [← HE.out,← HST.out] at hmk;have T1L:=Lib.hid t1l;have T2L:=Lib.hid t2l;have hbel4:Below w.heap.size w w2:=(hbel.trans (Below.drewN _ _ _)).trans (b2.mono hsz2);clear t1l t2l o2 HO4)
       | (refine step_appendS rfl _ _ 36 rfl 24 (.slice none 0 0) 1 24 tI64S (.slice (some ⟨w2.heap.size,0,none⟩) 1 1) 1 [.slice ou x.length cu] (some w2.heap.size) rfl (by simpa using Row.lit w2 #[.slice ou x.length cu] 24 1 1 (by decide) (by simp)) _ _ _ d2 rfl (by have:=T2L.out;omega) (by intro h;simp) (by intro a ha i u hi;rw [List.eq_nil_of_length_eq_zero (l:=d2) (by have:=T2L.out;omega)] at hi;simp at hi) t2 (by have:=T2L.out;omega) (by have:=T2L.out;unfold maxLen;omega) ?_;intro vA wA ogA happA))
      all_goals
       replace happA:jR (w2.alloc (.cells #[.slice ou x.length cu] 24)) wA vA 1 (1 + d2.length) ([.slice ou x.length cu] ++ d2) (some w2.heap.size) ogA:=by have e:=T2L.out;first|exact happA|(rw [e];simpa using happA)
       obtain ⟨oA,capA,rfl,pA1,pA2⟩:=happA.1.val
       unfold maxLen at pA2
       have lowA:=happA.low (B:=(w2).heap.size) (by simp) (fun g hg => by cases hg;exact Nat.le_refl _)
       have belA:Below (w2).heap.size (w2) wA:=((Below.refl _ _).alloc (Nat.le_refl _) _).trans lowA.2
       have sA:=belA.size
       have HA:=Lib.hid happA.1
       have HogA:=Lib.hid lowA.1
       have CA:=(hcl wA belA).1
       clear happA lowA
       go_wp2_with (at_builtin;refine yP (o:=⟨some 46,_,_,_,_,_⟩) ?_)
       refine jY.go ?_
       refine xJ rfl _ _ 36 rfl 24 (.slice none 0 0) 1 24 tI64S (.slice (some ⟨wA.heap.size,0,none⟩) 0 0) 0 [] (some wA.heap.size) rfl (by simpa using Row.lit wA #[] 24 1 0 (by decide) (by simp)) (some ⟨g0,0,none⟩) ys.length _ d1 rfl (by have:=T1L.out;omega) (fun h => by cases h) (by intro a ha i u hi;cases ha;rw [Addr.add_lit,Nat.zero_add];have:=(hcl (wA.alloc (.cells #[] 24)) (belA.alloc sA _)).1 i u hi;exact this) t1 (by have:=T1L.out;omega) (by unfold maxLen;omega) ?_
       intro vB wB ogB happB
       rw [Nat.zero_add,List.nil_append] at happB
       obtain ⟨oB,capB,rfl,pB1,pB2⟩:=happB.1.val
       unfold maxLen at pB2
       have lowB:=happB.low (B:=(w2).heap.size) (Nat.le_trans sA (by simp)) (fun g hg => by cases hg;exact sA)
       have lowB2:=happB.low (B:=wA.heap.size) (by simp) (fun g hg => by cases hg;exact Nat.le_refl _)
       have belB2:Below wA.heap.size wA wB:=((Below.refl _ _).alloc (Nat.le_refl _) _).trans lowB2.2
       have belB:Below (w2).heap.size (w2) wB:=belA.trans (belB2.mono sA)
       have sB:=belB.size
       have hrA:Row wB (.slice oA (1 + d2.length) capA) 1 (1 + d2.length) ([(.slice ou x.length cu)] ++ d2) ogA:=HA.out.frame (fun g hg => belB2.block g (HA.out.lt g hg))
       obtain ⟨gA,hgA⟩:=hrA.some_of (j:=0) (by omega)
       subst hgA
       obtain ⟨oA',cA',eA,_,_,_,eA2⟩:=hrA.value
       simp only [Value.slice.injEq,true_and] at eA
       obtain ⟨rfl,rfl⟩:=eA
       simp only [Option.map_some] at eA2
       subst eA2
       have HRA:=Lib.hid hrA
       have HB:=Lib.hid happB.1
       have HogB:=Lib.hid lowB.1
       clear hrA happB lowB lowB2 CA
       go_wp2_with (at_builtin;refine yP (o:=⟨some 48,_,_,_,_,_⟩) ?_)
       refine jY.go ?_
       refine xJ rfl _ _ 36 rfl 24 (.slice none 0 0) 1 24 tI64S (.slice oB ys.length capB) ys.length d1 ogB rfl HB.out (some ⟨gA,0,none⟩) _ _ ([(.slice ou x.length cu)] ++ d2) rfl (by simp <;> omega) (fun h => by cases h) (by intro a ha i u hi;cases ha;rw [Addr.add_lit,Nat.zero_add];exact HRA.out.cells i u hi) (fun u hu => (List.mem_append.1 hu).elim (fun h => by simp at h;subst h;exact t3) (t2 u)) (by have:=T2L.out;omega) (by have:=T2L.out;unfold maxLen;omega) ?_
       intro vC wC ogC happC
       have lowC:=happC.low (B:=(w2).heap.size) sB HogB.out
       have belC:Below (w2).heap.size (w2) wC:=belB.trans lowC.2
       have hrC:=happC.1
       have eN:ys.length + (1 + d2.length) = ys.length + 1:=by have:=T1L.out;have:=T2L.out;omega
       rw [eN,List.singleton_append] at hrC
       have hfin:=hmk wC vC ogC belC hrC lowC.1
       obtain ⟨gC,hgC⟩:=hrC.some_of (j:=0) (by omega)
       subst hgC
       obtain ⟨capC,hvC,_,_⟩:=hrC.slice
       subst hvC
       have HFIN:=Lib.hid hfin
       clear hfin hrC happC lowC HA HB HRA HogA HogB eN
       have hfl:(sortC cmpT (bs.take (k + 1))).length = ys.length + 1:=by rw [kV];simp;rw [Hyl.out];omega
       obtain ⟨zs,hzs⟩:∃ zs,zs = sortC cmpT (bs.take (k + 1)):=⟨_,rfl⟩
       rw [← hzs] at HFIN hfl
       have hkz:zs.length = k + 1:=by rw [hfl,Hyl.out]
       rw [← hfl] at HFIN
       rw [← hfl]
       have HZ:=Lib.hid hzs
       have HKZ:=Lib.hid hkz
       clear hzs hfl hkz
       go_wp2_with fail
       go_roundw
       case rel => exact ⟨k + 1,zs,by omega,by go_num,HZ,HKZ,⟨_,_,rfl⟩,HFIN,hbel4.trans (belC.mono (Nat.le_trans hsz2 hsz5))⟩
       case measure => simp [intOf];omega
  ·have hfin:Hid (ys = forest bs):=Lib.hid (by rw [hys.out,List.take_of_length_le (by omega)];rfl)
   have hkb:¬ ((k:Int) < (bs.length:Int)):=by omega
   clear hlt
   go_wp2_with fail
   go_ret
   exact ⟨_,rfl,by rw [← hfin.out];exact hown.out,hbel⟩
theorem AFn.val1 {P:Program} {f:FuncId} {ds:List (List D)} {k:Nat} {xs:List (List D)} (h:AFn P f ds (· = [.own k xs false])):AFn P f ds (· = [.val (.sl k xs)]):=by
 refine ⟨h.call,fun A w vs hA hr => (h.fn A w vs hA hr).mono ?_⟩
 rintro e w' ⟨v,rs,rfl,rfl,hb,us,G,X,rfl,hG1,hG2,v1,us1,G1,G2,Y1,Y2,rfl,rfl,rfl,ho,⟨og,cap,F,dd,rfl,hrow,hk,rfl,rfl,hel⟩,rfl,rfl,rfl⟩
 refine ⟨_,_,rfl,rfl,hb,[_],[],[],rfl,List.nodup_nil,(fun b hb => nomatch hb),_,[],[],[],[],[],rfl,rfl,rfl,ho,⟨?_,rfl,rfl⟩,rfl,rfl,rfl⟩
 have hel:rdR k (fun b => (A b ∨ w.heap.size ≤ b)∧b ∉ og.toList ++ []) w' dd xs:=hel
 obtain ⟨oa,c,e,h1,h2,h3,h4⟩:=vV hrow
 refine yT.2 ⟨oa,c,dd,e,h1,h2,h3,hel.mono (fun b hb _ => ⟨hb.1,by simp⟩),?_⟩
 cases og with
 | none =>
  left
  have:=hrow.len0
  exact List.eq_nil_of_length_eq_zero (by rw [hrow.1,this,Nat.zero_mul])
 | some g =>
  refine .inr ⟨g,0,h4,⟨.inr (hG2 g (by simp)),by simp⟩,fun j u hj => ?_⟩
  rw [Nat.zero_add]
  exact hrow.cells j u hj
def SmF (f:List (List Int)):Prop:=f.length ≤ 19∧qJ f ≤ 100
instance (f:List (List Int)):Decidable (SmF f):=inferInstanceAs (Decidable (_∧_))
theorem SmF.b {f:List (List Int)} (h:SmF f):∀ b ∈ f,b.length ≤ 1000:=fun b hb => by have:=yX hb;have:=h.2;omega
theorem AFn.valT {P:Program} {f:FuncId} {ds:List (List D)} {k:Nat} {xs:List (List D)} (h:AFn P f ds (· = [.own k xs true])):AFn P f ds (· = [.val (.sl k xs)]):=by
 refine ⟨h.call,fun A w vs hA hr => (h.fn A w vs hA hr).mono ?_⟩
 rintro e w' ⟨v,rs,rfl,rfl,hb,us,G,X,rfl,hG1,hG2,v1,us1,G1,G2,Y1,Y2,rfl,rfl,rfl,ho,⟨og,cap,F,dd,rfl,hrow,hk,rfl,rfl,hel⟩,rfl,rfl,rfl⟩
 refine ⟨_,_,rfl,rfl,hb,[_],[],[],rfl,List.nodup_nil,(fun b hb => nomatch hb),_,[],[],[],[],[],rfl,rfl,rfl,ho,⟨?_,rfl,rfl⟩,rfl,rfl,rfl⟩
 have hel:ownR k w' dd xs F:=hel
 have hv:=kA.2 ⟨og,dd,F,hrow,hel,rfl⟩
 exact hv.rd.mono (fun b hb _ => ⟨.inr (hG2 b (by simpa using hb)),by simp⟩)
theorem a_forestOf (f:List (List Int)) (hl:f.length ≤ 19) (hs:qJ f ≤ 1000000000):AFn Tryz.prog 102 [eLL f] (· = [.own 1 ((forest f).map eL) true]) :=
 afn_LLL_oo (enters_of Tryz.func102 rfl rfl) (fun u w h => c_impl_forestOf u f w h hl (fun b hb => Nat.le_trans (yX hb) hs))
theorem a_l03Sort (f:List (List Int)) (hl:f.length ≤ 1000) (hs:∀ b ∈ f,b.length ≤ 1000):AFn Tryz.prog 187 [eLL f] (· = [.own 1 ((forest f).map eL) true]) :=
 afn_LLL_oo (enters_of Tryz.func187 rfl rfl) (fun u w h => c_spec_l03Sort u f w h (by omega) (fun b hb => by have:=hs b hb;omega))
theorem a_l03Times (f g:List (List Int)) (hl:f.length ≤ 400) (hs:∀ b ∈ f,b.length ≤ 1000) (hl2:g.length ≤ 400) (hs2:∀ b ∈ g,b.length ≤ 1000):AFn Tryz.prog 148 [eLL f,eLL g] (· = [.own 1 ((mulF f g).map eL) true]):=by
 have h1:=a_l01Own2 f (by omega) hs
 have h2:=a_l03Sort (f ++ g) (by rw [List.length_append];omega) (fun b hb => by
  rcases List.mem_append.1 hb with hb|hb
  ·exact hs b hb
  ·exact hs2 b hb)
 simp only [eLL,List.map_append] at h1 h2
 have q1:=jS (n:=f.length + g.length) (by omega)
 have q2:=jO (n:=f.length + g.length) (c:=24) (by omega) (by omega)
 have e:mulF f g = forest (f ++ g):=rfl
 rw [e]
 refine AFn.of_runs (qX 10) Tryz.func148 rfl rfl rfl gz ?_
 have hres:Tryz.f148.results.toList = [.tmp 4]:=rfl
 have hrts:Tryz.f148.resultTypes.toList = [36]:=rfl
 simp only [qK,qA,eL,eI,eLL,eB,Nat.zero_add,Nat.reduceAdd]
 intro M
 refine qQ.of ?_
 refine gw9 (kk 5) (Yp q1 q2) ?_
 exact gw8
theorem yE0 (t:List Int) (h:qY t) (hl:t.length ≤ 13):AFn Tryz.prog 91 [eL t] (· = [.own 1 ((canon t).map eI) true]) :=
 afn_L_o (enters_of Tryz.func91 rfl rfl) (fun u w h' => yF0 13 u t w h' h hl (by omega))
theorem a_rootOn (f:List (List Int)) (hs:Small f) (hsz:qJ f ≤ 1000000000):AFn Tryz.prog 100 [eLL f] (· = [.own 1 ((qT f).map eI) true]) :=
 afn_LLL_o (enters_of Tryz.func100 rfl rfl) (fun u w h => yY0 u f w h hs hsz)
theorem jC0 (t:List Int) (h:qY t) (hl:t.length ≤ 1000):AFn Tryz.prog 186 [eL t] (· = [.own 1 ((canon t).map eI) true]) :=
 afn_L_o (enters_of Tryz.func186 rfl rfl) (fun u w h' => yC0 1000 u t w h' h hl (by omega))
theorem a_l03Root (f:List (List Int)) (hf:SmF f) (hlev:∀ b ∈ f,qY b):AFn Tryz.prog 193 [eLL f] (· = [.own 1 ((canon (qT f)).map eI) true]):=by
 have hrl:=xA f
 have hca:=jC0 (qT f) (kN hlev) (by have:=hf.2;omega)
 simp only [eL] at hca
 have hsum:∀ i,(qT (f.take i)).length ≤ 101:=fun i => by
  rw [xA]
  have h1:=hf.2
  have h2:qJ (f.take i) ≤ qJ f:=by
   conv => rhs;rw [← List.take_append_drop i f]
   simp only [qJ,List.map_append,List.sum_append];omega
  omega
 refine AFn.of_runs (qX 35) Tryz.func193 rfl rfl rfl gz ?_
 have hres:Tryz.f193.results.toList = [.tmp 2]:=rfl
 have hrts:Tryz.f193.resultTypes.toList = [24]:=rfl
 simp only [qK,qA,eL,eI,eLL,eB,Nat.zero_add,Nat.reduceAdd]
 intro M
 refine qQ.of ?_
 refine gw7 (kk 6) Y0 ?_
 refine qQ.loop (β:=Nat) (γ:=Unit) (fun i => ⟨[(0,.c (.val (.sl 1 (f.map eL)))),(3,.c (.own 3 (qT (f.take i)).length)),(4,.c (.val (.int i)))],[(3,.row 1 ((qT (f.take i)).map eI) true)]⟩) (fun i => i ≤ f.length) (fun i => f.length - i)
  (fun _ => ⟨[(3,.c (.own 3 (qT f).length))],[(3,.row 1 ((qT f).map eI) true)]⟩) (fun _ => True) 0 (Nat.zero_le _) ?_ ?_ ?_
 ·exact gw10 (show qT [] = [0] from rfl)
 ·intro i hi
  have hi:i ≤ f.length:=hi
  have hw:=qI (n:=i) (by have:=hf.1;omega)
  by_cases h:i < f.length
  ·have i1:((i:Int) < (f.length:Int)) = True:=eq_true (by omega)
   have i2:((0:Int) ≤ (i:Int)) = True:=eq_true (by omega)
   obtain ⟨b,hb⟩:∃ b,b = f[i]:=⟨_,rfl⟩
   have hg:(f.map eL)[i]? = some [.sl 1 (b.map eI)]:=by rw [qP h,hb];rfl
   have hbl:b.length ≤ 100:=by have:=yX (show b ∈ f by rw [hb];exact List.getElem_mem _);have:=hf.2;omega
   have hbs:=(hlev b (by rw [hb];exact List.getElem_mem _)).small (by omega)
   have hst:qT (f.take (i + 1)) = qT (f.take i) ++ b.map (· + 1):=by rw [List.take_succ_eq_append_getElem h,wW,hb]
   have hsi:=hsum i
   refine gw5 (kk 6) i1 ?_
   refine qQ.loop (β:=Nat) (γ:=Unit) (fun k => ⟨[(0,.c (.val (.sl 1 (f.map eL)))),(3,.c (.own 3 ((qT (f.take i)).length + k))),(4,.c (.val (.int i))),(5,.c (.val (.int k)))],[(3,.row 1 ((qT (f.take i) ++ (b.take k).map (· + 1)).map eI) true)]⟩) (fun k => k ≤ b.length) (fun k => b.length - k)
    (fun _ => ⟨[(0,.c (.val (.sl 1 (f.map eL)))),(3,.c (.own 3 ((qT (f.take i)).length + b.length))),(4,.c (.val (.int i)))],[(3,.row 1 ((qT (f.take (i + 1))).map eI) true)]⟩) (fun _ => True) 0 (Nat.zero_le _) ?_ ?_ ?_
   ·exact gw11
   ·intro k hk
    have hk:k ≤ b.length:=hk
    have hwk:=qI (n:=k) (by omega)
    have hlen:((qT (f.take i) ++ (b.take k).map (· + 1)).map eI).length = (qT (f.take i)).length + k:=by
     rw [List.length_map,List.length_append,List.length_map,List.length_take];omega
    by_cases hkb:k < b.length
    ·have k1:((k:Int) < (b.length:Int)) = True:=eq_true (by omega)
     have k2:((0:Int) ≤ (k:Int)) = True:=eq_true (by omega)
     obtain ⟨x,hx⟩:∃ x,x = b[k]:=⟨_,rfl⟩
     have hxb:=hbs b[k] (List.getElem_mem _)
     rw [← hx] at hxb
     have hgx:(b.map eI)[k]? = some [.int x]:=by rw [qP hkb,hx];rfl
     have hwx:=qR (n:=x + 1) (by omega)
     have q1:=jS (n:=(qT (f.take i)).length + k + 1) (by omega)
     have q2:=jO (n:=(qT (f.take i)).length + k + 1) (c:=8) (by omega) (by omega)
     have htk:(b.take (k + 1)).map (· + 1) = (b.take k).map (· + 1) ++ [x + 1]:=by rw [List.take_succ_eq_append_getElem hkb,List.map_append,hx];rfl
     have hlf:(f.map eL).length = f.length:=List.length_map _
     have hlb:(b.map eI).length = b.length:=List.length_map _
     refine gw12 (kk 6) (Y12 i1 i2 k1 k2 hg hgx hwk hwx q1 q2 hlen (Yp hlf hlb)) ?_
     refine qW.on (k + 1) ⟨hkb,by omega⟩ ?_
     rw [htk,← List.append_assoc]
     exact gw13
    ·have k1:((k:Int) < (b.length:Int)) = False:=eq_false (by omega)
     obtain rfl:k = b.length:=by omega
     have hlf:(f.map eL).length = f.length:=List.length_map _
     have hlb:(b.map eI).length = b.length:=List.length_map _
     rw [List.take_length,← hst]
     refine gw12 (kk 6) (Y6 i1 i2 k1 hg hlf hlb) ?_
     refine qW.out () trivial ?_
     exact gw6
   ·rintro _ _
    refine gw7 (kk 6) hw ?_
    refine qW.on (i + 1) ⟨h,by omega⟩ ?_
    have hl2:(qT (f.take (i + 1))).length = (qT (f.take i)).length + b.length:=by rw [hst,List.length_append,List.length_map]
    rw [hl2]
    exact gw6
  ·have i1:((i:Int) < (f.length:Int)) = False:=eq_false (by omega)
   obtain rfl:i = f.length:=by omega
   rw [List.take_length]
   refine gw5 (kk 6) i1 ?_
   refine qW.out () trivial ?_
   exact gw6
 ·rintro _ _
  refine gw14 (kk 6) ?_
  exact gw8
theorem z10:((1:Int) == 0) = false:=rfl
theorem z00:((0:Int) == 0) = true:=rfl
theorem zm0:((-1:Int) == 0) = false:=rfl
end Go.Proofs.YtedgfkpfhonlpaaGreat

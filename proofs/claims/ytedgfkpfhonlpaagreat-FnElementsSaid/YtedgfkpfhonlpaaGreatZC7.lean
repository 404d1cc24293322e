/- Lemmas (7). -/
import Derived.Test.YtedgfkpfhonlpaaGreatZC5
import Derived.Test.YtedgfkpfhonlpaaGreatZC6
set_option maxHeartbeats 16000000
set_option maxRecDepth 100000
set_option linter.unusedSimpArgs false
set_option linter.unusedVariables false
namespace Go.Proofs.YtedgfkpfhonlpaaGreat
open Go.RowKit
section
theorem Yp{a b:Prop}(x:a)(y:b):a∧b:=⟨x,y⟩
theorem Zi:type_of% (Yp @if_true.{1} @if_false.{1}):=(Yp @if_true.{1} @if_false.{1})
theorem gz{p:Prop}(h:p:=by (simp only [List.length_cons,List.length_nil];decide)):p:=h
theorem telT_none (s:St) (u:List Nat):telT s u Option.none = Option.none:=rfl
theorem Zg:type_of% (Yp (Yp (Yp (Yp (Yp (Yp (Yp @arun.eq_1 (Yp @arun.eq_2 @astep.eq_def)) (Yp (Yp @anew.eq_def @amut.eq_def) (Yp @isMut.eq_def @qL.eq_def))) (Yp (Yp @avG.eq_def (Yp @Bool.true_beq @Bool.false_beq)) (Yp (Yp @beq_true @beq_false) (Yp @dstOK.eq_def @cfg.eq_def)))) (Yp (Yp (Yp @opv.eq_def (Yp @noJunk.eq_def @constAV.eq_def)) (Yp (Yp @look_eq @lookB.eq_1) (Yp @lookB.eq_2 @insR_eq))) (Yp (Yp @insB.eq_1 (Yp @insB.eq_2 @cond_true.{1})) (Yp (Yp @cond_false.{1} @jP.eq_def) (Yp @List.foldr_cons.{0,0} @List.foldr_nil.{0,0}))))) (Yp (Yp (Yp (Yp @Option.bind_some.{0,0} (Yp @Option.map_some.{0,0} @Option.bind_none.{0,0})) (Yp (Yp @Option.map_none.{0,0} @Option.getD_some.{0}) (Yp @Option.getD_none.{0} @Bool.false_eq_true))) (Yp (Yp @decide_true (Yp @decide_false @slT.eq_def)) (Yp (Yp @tyT.eq_def (Yp @tyT2.eq_def (Yp @tyT3.eq_def @slT2.eq_def))) (Yp @fsT.eq_def @avD.eq_def)))) (Yp (Yp (Yp @avI.eq_def (Yp @avB.eq_def @dval.eq_def)) (Yp (Yp @un_int @un_bool) (Yp @un_raw @un_sl))) (Yp (Yp (Yp @un_tag @avun_val) (Yp @avun_nil @avun_own)) (Yp (Yp @avun_view @abin.eq_def) (Yp @aun.eq_def @alen.eq_def)))))) (Yp (Yp (Yp (Yp (Yp @aindex.eq_def (Yp @aslice.eq_def @afield.eq_def)) (Yp (Yp @xR.eq_def @aload.eq_def) (Yp @xQ.eq_def @zAC.eq_def))) (Yp (Yp @afill.eq_1 (Yp @afill.eq_2 @yI.eq_1)) (Yp (Yp @yI.eq_2 @mkObj.eq_def) (Yp @rowsD.eq_1 @rowsD.eq_2)))) (Yp (Yp (Yp @yX.eq_1 (Yp @yX.eq_2 @yX.eq_3)) (Yp (Yp @cellD_vsl @cellD_vtag) (Yp @cellD_vint @cellD_vbool))) (Yp (Yp @cellD_vraw (Yp @cellD_nilsl @cellD_own)) (Yp (Yp @cellD_view @cellD_junk) (Yp @fresh.eq_def @abase.eq_def))))) (Yp (Yp (Yp (Yp @aelems.eq_def (Yp @qY0.eq_def @jM.eq_1)) (Yp (Yp @jM.eq_2 @jM.eq_3) (Yp @absorb.eq_def @kJ.eq_1))) (Yp (Yp @kJ.eq_2 (Yp @drop_eq @dropB.eq_1)) (Yp (Yp @dropB.eq_2 @killR.eq_def) (Yp @AC.kill.eq_def @AV.kill.eq_def)))) (Yp (Yp (Yp @AV.refs.eq_def (Yp @AC.refs.eq_def @Obj.refs.eq_def)) (Yp (Yp @List.map_cons.{0,0} @List.map_nil.{0,0}) (Yp @List.all_cons.{0} @List.all_nil.{0}))) (Yp (Yp (Yp @List.flatMap_cons.{0,0} @List.flatMap_nil.{0,0}) (Yp @List.contains_nil.{0} @List.contains_cons.{0})) (Yp (Yp @List.append_nil.{0} @List.nil_append.{0}) (Yp @List.cons_append.{0} @Bool.and_true))))))) (Yp (Yp (Yp (Yp (Yp (Yp @Bool.true_and (Yp @Bool.not_true @Bool.not_false)) (Yp (Yp @Bool.and_self @Option.isNone_none.{0}) (Yp @Option.isNone_some.{0} @List.length_cons.{0}))) (Yp (Yp @List.length_nil.{0} (Yp @List.toList_toArray.{0} @List.getElem?_toArray.{0})) (Yp (Yp @qD.eq_def @List.take_succ_cons.{0}) (Yp @List.drop_succ_cons.{0} @List.take_zero.{0})))) (Yp (Yp (Yp @List.drop_zero.{0} (Yp @List.take_nil.{0} @List.drop_nil.{0})) (Yp (Yp @Nat.zero_add @Nat.add_zero) (Yp @and_self @true_and))) (Yp (Yp @and_true (Yp @List.getElem?_cons_zero.{0} @List.getElem?_cons_succ.{0})) (Yp (Yp @List.getElem?_nil.{0} @beq_self_eq_true.{0}) (Yp @Bool.or_false @Bool.false_or))))) (Yp (Yp (Yp (Yp @Bool.or_true (Yp @Bool.true_or @putR.eq_def)) (Yp (Yp @bne_self_eq_false.{0} @Bool.and_false) (Yp @Bool.false_and @id_eq.{1}))) (Yp (Yp @Obj.k.eq_def (Yp @Obj.len.eq_def @Obj.deep.eq_def)) (Yp (Yp @List.getElem?_cons.{0} @List.set_cons_zero.{0}) (Yp @List.set_cons_succ.{0} @List.length_set.{0})))) (Yp (Yp (Yp @aopsT.eq_1 (Yp @aopsT.eq_2 @astepT.eq_def)) (Yp (Yp @isCall.eq_def @kT.eq_def) (Yp @arg1.eq_def @argV_raw))) (Yp (Yp (Yp @argV_nil @argV_own) (Yp @argV_view @argV_agg)) (Yp (Yp @argV_sl @argV_int) (Yp @argV_bool @argV_tag)))))) (Yp (Yp (Yp (Yp (Yp (Yp (Yp @isOwn.eq_def @isPin.eq_def) (Yp (Yp @callP.eq_def @pinE_pin) (Yp @putP_some @Tab.pin.eq_def))) (Yp @callE.eq_def @ownKey.eq_def)) (Yp (Yp @rowE_row @qJ0) (Yp @qU0 @Tab.own.eq_def))) (Yp (Yp @Tab.at'.eq_def (Yp @atArgs_eq @Option.isSome_some.{0})) (Yp (Yp @Option.isSome_none.{0} @gotT_some) (Yp @gotF_some @gotF_none)))) (Yp (Yp (Yp @jO0 (Yp @St.frzs.eq_1 @St.frzs.eq_2)) (Yp (Yp @St.frz.eq_def @AC.frz.eq_def) (Yp @AV.frz.eq_def @Obj.frz.eq_def))) (Yp (Yp (Yp @frzR.eq_1 @frzR.eq_2) (Yp @frzH.eq_1 @frzH.eq_2)) (Yp (Yp @telT_some @List.size_toArray.{0}) (Yp @aargs.eq_1 @aargs.eq_2))))) (Yp (Yp (Yp (Yp @aargs.eq_3 (Yp @argAV.eq_def @jU.eq_1)) (Yp (Yp @jU.eq_2 @jU.eq_3) (Yp @xY.eq_def @fnId.eq_def))) (Yp (Yp @opRefs_nil (Yp @opRefs_cons @St.got.eq_def)) (Yp (Yp @qY.eq_1 @qY.eq_2) (Yp @resAC.eq_def @outAV.eq_def)))) (Yp (Yp (Yp @Res.scalar.eq_def (Yp @isSl.eq_def @Tab.add.eq_def)) (Yp (Yp @Tab.none.eq_def @tab1.eq_def) (Yp @tab2.eq_def @tab3.eq_def))) (Yp (Yp (Yp @codL_d @codLL_d) (Yp @codI_d @codB_d)) (Yp (Yp @codCts_d @List.isEmpty_nil.{0}) (Yp @List.isEmpty_cons.{0} @List.append_eq.{0})))))))):=(Yp (Yp (Yp (Yp (Yp (Yp (Yp @arun.eq_1 (Yp @arun.eq_2 @astep.eq_def)) (Yp (Yp @anew.eq_def @amut.eq_def) (Yp @isMut.eq_def @qL.eq_def))) (Yp (Yp @avG.eq_def (Yp @Bool.true_beq @Bool.false_beq)) (Yp (Yp @beq_true @beq_false) (Yp @dstOK.eq_def @cfg.eq_def)))) (Yp (Yp (Yp @opv.eq_def (Yp @noJunk.eq_def @constAV.eq_def)) (Yp (Yp @look_eq @lookB.eq_1) (Yp @lookB.eq_2 @insR_eq))) (Yp (Yp @insB.eq_1 (Yp @insB.eq_2 @cond_true.{1})) (Yp (Yp @cond_false.{1} @jP.eq_def) (Yp @List.foldr_cons.{0,0} @List.foldr_nil.{0,0}))))) (Yp (Yp (Yp (Yp @Option.bind_some.{0,0} (Yp @Option.map_some.{0,0} @Option.bind_none.{0,0})) (Yp (Yp @Option.map_none.{0,0} @Option.getD_some.{0}) (Yp @Option.getD_none.{0} @Bool.false_eq_true))) (Yp (Yp @decide_true (Yp @decide_false @slT.eq_def)) (Yp (Yp @tyT.eq_def (Yp @tyT2.eq_def (Yp @tyT3.eq_def @slT2.eq_def))) (Yp @fsT.eq_def @avD.eq_def)))) (Yp (Yp (Yp @avI.eq_def (Yp @avB.eq_def @dval.eq_def)) (Yp (Yp @un_int @un_bool) (Yp @un_raw @un_sl))) (Yp (Yp (Yp @un_tag @avun_val) (Yp @avun_nil @avun_own)) (Yp (Yp @avun_view @abin.eq_def) (Yp @aun.eq_def @alen.eq_def)))))) (Yp (Yp (Yp (Yp (Yp @aindex.eq_def (Yp @aslice.eq_def @afield.eq_def)) (Yp (Yp @xR.eq_def @aload.eq_def) (Yp @xQ.eq_def @zAC.eq_def))) (Yp (Yp @afill.eq_1 (Yp @afill.eq_2 @yI.eq_1)) (Yp (Yp @yI.eq_2 @mkObj.eq_def) (Yp @rowsD.eq_1 @rowsD.eq_2)))) (Yp (Yp (Yp @yX.eq_1 (Yp @yX.eq_2 @yX.eq_3)) (Yp (Yp @cellD_vsl @cellD_vtag) (Yp @cellD_vint @cellD_vbool))) (Yp (Yp @cellD_vraw (Yp @cellD_nilsl @cellD_own)) (Yp (Yp @cellD_view @cellD_junk) (Yp @fresh.eq_def @abase.eq_def))))) (Yp (Yp (Yp (Yp @aelems.eq_def (Yp @qY0.eq_def @jM.eq_1)) (Yp (Yp @jM.eq_2 @jM.eq_3) (Yp @absorb.eq_def @kJ.eq_1))) (Yp (Yp @kJ.eq_2 (Yp @drop_eq @dropB.eq_1)) (Yp (Yp @dropB.eq_2 @killR.eq_def) (Yp @AC.kill.eq_def @AV.kill.eq_def)))) (Yp (Yp (Yp @AV.refs.eq_def (Yp @AC.refs.eq_def @Obj.refs.eq_def)) (Yp (Yp @List.map_cons.{0,0} @List.map_nil.{0,0}) (Yp @List.all_cons.{0} @List.all_nil.{0}))) (Yp (Yp (Yp @List.flatMap_cons.{0,0} @List.flatMap_nil.{0,0}) (Yp @List.contains_nil.{0} @List.contains_cons.{0})) (Yp (Yp @List.append_nil.{0} @List.nil_append.{0}) (Yp @List.cons_append.{0} @Bool.and_true))))))) (Yp (Yp (Yp (Yp (Yp (Yp @Bool.true_and (Yp @Bool.not_true @Bool.not_false)) (Yp (Yp @Bool.and_self @Option.isNone_none.{0}) (Yp @Option.isNone_some.{0} @List.length_cons.{0}))) (Yp (Yp @List.length_nil.{0} (Yp @List.toList_toArray.{0} @List.getElem?_toArray.{0})) (Yp (Yp @qD.eq_def @List.take_succ_cons.{0}) (Yp @List.drop_succ_cons.{0} @List.take_zero.{0})))) (Yp (Yp (Yp @List.drop_zero.{0} (Yp @List.take_nil.{0} @List.drop_nil.{0})) (Yp (Yp @Nat.zero_add @Nat.add_zero) (Yp @and_self @true_and))) (Yp (Yp @and_true (Yp @List.getElem?_cons_zero.{0} @List.getElem?_cons_succ.{0})) (Yp (Yp @List.getElem?_nil.{0} @beq_self_eq_true.{0}) (Yp @Bool.or_false @Bool.false_or))))) (Yp (Yp (Yp (Yp @Bool.or_true (Yp @Bool.true_or @putR.eq_def)) (Yp (Yp @bne_self_eq_false.{0} @Bool.and_false) (Yp @Bool.false_and @id_eq.{1}))) (Yp (Yp @Obj.k.eq_def (Yp @Obj.len.eq_def @Obj.deep.eq_def)) (Yp (Yp @List.getElem?_cons.{0} @List.set_cons_zero.{0}) (Yp @List.set_cons_succ.{0} @List.length_set.{0})))) (Yp (Yp (Yp @aopsT.eq_1 (Yp @aopsT.eq_2 @astepT.eq_def)) (Yp (Yp @isCall.eq_def @kT.eq_def) (Yp @arg1.eq_def @argV_raw))) (Yp (Yp (Yp @argV_nil @argV_own) (Yp @argV_view @argV_agg)) (Yp (Yp @argV_sl @argV_int) (Yp @argV_bool @argV_tag)))))) (Yp (Yp (Yp (Yp (Yp (Yp (Yp @isOwn.eq_def @isPin.eq_def) (Yp (Yp @callP.eq_def @pinE_pin) (Yp @putP_some @Tab.pin.eq_def))) (Yp @callE.eq_def @ownKey.eq_def)) (Yp (Yp @rowE_row @qJ0) (Yp @qU0 @Tab.own.eq_def))) (Yp (Yp @Tab.at'.eq_def (Yp @atArgs_eq @Option.isSome_some.{0})) (Yp (Yp @Option.isSome_none.{0} @gotT_some) (Yp @gotF_some @gotF_none)))) (Yp (Yp (Yp @jO0 (Yp @St.frzs.eq_1 @St.frzs.eq_2)) (Yp (Yp @St.frz.eq_def @AC.frz.eq_def) (Yp @AV.frz.eq_def @Obj.frz.eq_def))) (Yp (Yp (Yp @frzR.eq_1 @frzR.eq_2) (Yp @frzH.eq_1 @frzH.eq_2)) (Yp (Yp @telT_some @List.size_toArray.{0}) (Yp @aargs.eq_1 @aargs.eq_2))))) (Yp (Yp (Yp (Yp @aargs.eq_3 (Yp @argAV.eq_def @jU.eq_1)) (Yp (Yp @jU.eq_2 @jU.eq_3) (Yp @xY.eq_def @fnId.eq_def))) (Yp (Yp @opRefs_nil (Yp @opRefs_cons @St.got.eq_def)) (Yp (Yp @qY.eq_1 @qY.eq_2) (Yp @resAC.eq_def @outAV.eq_def)))) (Yp (Yp (Yp @Res.scalar.eq_def (Yp @isSl.eq_def @Tab.add.eq_def)) (Yp (Yp @Tab.none.eq_def @tab1.eq_def) (Yp @tab2.eq_def @tab3.eq_def))) (Yp (Yp (Yp @codL_d @codLL_d) (Yp @codI_d @codB_d)) (Yp (Yp @codCts_d @List.isEmpty_nil.{0}) (Yp @List.isEmpty_cons.{0} @List.append_eq.{0}))))))))
theorem Zd:type_of% (Yp @telT_none (Yp (Yp (Yp (Yp @dregT_mk (Yp @drunT.eq_1 @drunT.eq_2)) (Yp @devalT.eq_def (Yp @deval.eq_def @St.add.eq_def))) (Yp (Yp @opnd_move (Yp @opnd_assign @opnd_load)) (Yp (Yp @opnd_box @opnd_alloc) (Yp @opnd_unOp @opnd_convert)))) (Yp (Yp (Yp @opnd_field (Yp @opnd_extract @opnd_index)) (Yp @opnd_make (Yp @opnd_bin @opnd_pick))) (Yp (Yp @opnd_build (Yp @yA0 @opnd_slice)) (Yp (Yp @opnd_call @opnd_bcall) (Yp @Option.toList_some.{0} @Option.toList_none.{0})))))):=(Yp @telT_none (Yp (Yp (Yp (Yp @dregT_mk (Yp @drunT.eq_1 @drunT.eq_2)) (Yp @devalT.eq_def (Yp @deval.eq_def @St.add.eq_def))) (Yp (Yp @opnd_move (Yp @opnd_assign @opnd_load)) (Yp (Yp @opnd_box @opnd_alloc) (Yp @opnd_unOp @opnd_convert)))) (Yp (Yp (Yp @opnd_field (Yp @opnd_extract @opnd_index)) (Yp @opnd_make (Yp @opnd_bin @opnd_pick))) (Yp (Yp @opnd_build (Yp @yA0 @opnd_slice)) (Yp (Yp @opnd_call @opnd_bcall) (Yp @Option.toList_some.{0} @Option.toList_none.{0}))))))
theorem Zu:type_of% (Yp (Yp @cutR.eq_1 @cutR.eq_2) (Yp @cond_true.{1} @cond_false.{1})):=(Yp (Yp @cutR.eq_1 @cutR.eq_2) (Yp @cond_true.{1} @cond_false.{1}))
theorem Zz:type_of% (Yp (Yp (Yp @look_eq @lookB.eq_1) (Yp @lookB.eq_2 (Yp @cond_true.{1} @cond_false.{1}))) (Yp (Yp @List.length_append.{0} (Yp @List.length_map.{0,0} @List.length_cons.{0})) (Yp @List.length_nil.{0} (Yp @Nat.zero_add @List.length_set.{0})))):=(Yp (Yp (Yp @look_eq @lookB.eq_1) (Yp @lookB.eq_2 (Yp @cond_true.{1} @cond_false.{1}))) (Yp (Yp @List.length_append.{0} (Yp @List.length_map.{0,0} @List.length_cons.{0})) (Yp @List.length_nil.{0} (Yp @Nat.zero_add @List.length_set.{0}))))
theorem Zv:type_of% (Yp (Yp @List.map_append.{0,0} (Yp @List.map_cons.{0,0} @List.map_nil.{0,0})) (Yp (Yp @List.append_assoc.{0} @List.cons_append.{0}) (Yp @List.nil_append.{0} @List.append_nil.{0}))):=(Yp (Yp @List.map_append.{0,0} (Yp @List.map_cons.{0,0} @List.map_nil.{0,0})) (Yp (Yp @List.append_assoc.{0} @List.cons_append.{0}) (Yp @List.nil_append.{0} @List.append_nil.{0})))
theorem Zk:type_of% (Yp (Yp (Yp @Tel.sh.eq_def @List.map_cons.{0,0}) (Yp @List.map_nil.{0,0} (Yp @AV.refs.eq_def @AC.refs.eq_def))) (Yp (Yp @List.flatMap_cons.{0,0} @List.flatMap_nil.{0,0}) (Yp @List.append_nil.{0} (Yp @List.nil_append.{0} @Obj.refs.eq_def)))):=(Yp (Yp (Yp @Tel.sh.eq_def @List.map_cons.{0,0}) (Yp @List.map_nil.{0,0} (Yp @AV.refs.eq_def @AC.refs.eq_def))) (Yp (Yp @List.flatMap_cons.{0,0} @List.flatMap_nil.{0,0}) (Yp @List.append_nil.{0} (Yp @List.nil_append.{0} @Obj.refs.eq_def))))
theorem QO{P:Program}{cfg:Cfg}{M:Nat → Prop}{fs:List Fr}{Q:Exit → St → Prop}{s:St}{i j:Nat} (h:outK P cfg M fs Q (.exit j) s) (hij:decide (j = i) = false := by with_unfolding_all rfl) : outK P cfg M (.blk i :: fs) Q (.exit j) s := outK.blkO hij h
theorem QV{P:Program}{cfg:Cfg}{M:Nat → Prop}{fs:List Fr}{Q:Exit → St → Prop}(k:Nat){x y:Code}{l:List (Nat × AV)}{H:List (Nat × Obj)}{rs:List (Nat × AV)} (h:qJ P cfg M x fs Q ⟨l,H⟩) (e:cutR k rs = l := by (simp only [Zu,Nat.reduceSub,Nat.reduceBEq];with_reducible rfl)) : qJ P cfg M (bif true then x else y) fs Q ⟨rs,H⟩ := qJ.wT k e h
theorem QY{P:Program}{cfg:Cfg}{M:Nat → Prop}{fs:List Fr}{Q:Exit → St → Prop}(k:Nat){x y:Code}{l:List (Nat × AV)}{H:List (Nat × Obj)}{rs:List (Nat × AV)} (h:qJ P cfg M y fs Q ⟨l,H⟩) (e:cutR k rs = l := by (simp only [Zu,Nat.reduceSub,Nat.reduceBEq];with_reducible rfl)) : qJ P cfg M (bif false then x else y) fs Q ⟨rs,H⟩ := qJ.wF k e h
theorem Ze:type_of% (Yp (Yp @jF.eq_1 @jF.eq_2) (Yp @jF.eq_3 @ares.eq_def)):=(Yp (Yp @jF.eq_1 @jF.eq_2) (Yp @jF.eq_3 @ares.eq_def))
theorem Q1:type_of% @qJ.seq:=@qJ.seq
theorem Q2:type_of% @qJ.next:=@qJ.next
theorem Q3:type_of% @qJ.skip:=@qJ.skip
theorem Q4:type_of% @qJ.exit:=@qJ.exit
theorem Q5:type_of% @qJ.ret:=@qJ.ret
theorem Q6:type_of% @qJ.label:=@qJ.label
theorem Q7:type_of% @outK.blkN:=@outK.blkN
theorem Q8:type_of% @outK.blkX:=@outK.blkX
theorem Q9:type_of% @outK.seqX:=@outK.seqX
theorem Qa:type_of% @outK.seqR:=@outK.seqR
theorem Qb:type_of% @outK.blkR:=@outK.blkR
theorem Qc:type_of% @qJ.blockS:=@qJ.blockS
theorem Qd:type_of% @qJ.blockR:=@qJ.blockR
theorem Qe:type_of% @qJ.blockC:=@qJ.blockC
theorem Qf:type_of% @qJ.blockB:=@qJ.blockB
theorem Qo:type_of% @outK.blkO:=@outK.blkO
theorem QT:type_of% @qJ.wT:=@qJ.wT
theorem QF:type_of% @qJ.wF:=@qJ.wF
theorem QS:type_of% @qJ.wS:=@qJ.wS
theorem QC:type_of% @qJ.wC:=@qJ.wC
theorem QD:type_of% @qJ.wD:=@qJ.wD
theorem QW:type_of% @Work.mk:=@Work.mk
theorem QK:type_of% @ChkD.mk:=@ChkD.mk
theorem Qn:type_of% @jY.nil:=@jY.nil
theorem Qr:type_of% @jY.reg:=@jY.reg
theorem Qj:type_of% @jY.obj:=@jY.obj
theorem Qw:type_of% @wk.same:=@wk.same
theorem Y0:(0:Nat)+0=0:=rfl
def KK(_:Nat):Prop:=True
theorem kk(k:Nat):KK k:=trivial
theorem QVk{P:Program}{cfg:Cfg}{M:Nat → Prop}{fs:List Fr}{Q:Exit → St → Prop}{k:Nat}(_:KK k){x y:Code}{l:List (Nat × AV)}{H:List (Nat × Obj)}{rs:List (Nat × AV)} (h:qJ P cfg M x fs Q ⟨l,H⟩) (e:cutR k rs = l := by (simp only [Zu,Nat.reduceSub,Nat.reduceBEq];with_reducible rfl)) : qJ P cfg M (bif true then x else y) fs Q ⟨rs,H⟩ := qJ.wT k e h
theorem QYk{P:Program}{cfg:Cfg}{M:Nat → Prop}{fs:List Fr}{Q:Exit → St → Prop}{k:Nat}(_:KK k){x y:Code}{l:List (Nat × AV)}{H:List (Nat × Obj)}{rs:List (Nat × AV)} (h:qJ P cfg M y fs Q ⟨l,H⟩) (e:cutR k rs = l := by (simp only [Zu,Nat.reduceSub,Nat.reduceBEq];with_reducible rfl)) : qJ P cfg M (bif false then x else y) fs Q ⟨rs,H⟩ := qJ.wF k e h
theorem QQ{G R:Prop}{k:Nat}(h:KK k)(r:R)(e:KK k→R→G:=by (intro h r;with_reducible (first|refine Q1 ?_|refine Q2 ?_|refine Q3 ?_|refine Q4 ?_|refine Q5 ?_|refine Q6 ?_|refine Q7 ?_|refine Q8 ?_|refine Q9 ?_|refine Qa ?_|refine Qb ?_|refine Qc ?_|refine Qd ?_|refine Qe ?_|refine Qf ?_|refine QO ?_|refine QVk h ?_|refine QYk h ?_);exact r)):G:=e h r
theorem Y3{a b c:Prop}(a1:a)(b1:b)(c1:c):a∧b∧c:=⟨a1,b1,c1⟩
theorem Y4{a b c d:Prop}(a1:a)(b1:b)(c1:c)(d1:d):a∧b∧c∧d:=⟨a1,b1,c1,d1⟩
theorem Y5{a b c d e:Prop}(a1:a)(b1:b)(c1:c)(d1:d)(e1:e):a∧b∧c∧d∧e:=⟨a1,b1,c1,d1,e1⟩
theorem Y6{a b c d e f:Prop}(a1:a)(b1:b)(c1:c)(d1:d)(e1:e)(f1:f):a∧b∧c∧d∧e∧f:=⟨a1,b1,c1,d1,e1,f1⟩
theorem Y7{a b c d e f g:Prop}(a1:a)(b1:b)(c1:c)(d1:d)(e1:e)(f1:f)(g1:g):a∧b∧c∧d∧e∧f∧g:=⟨a1,b1,c1,d1,e1,f1,g1⟩
theorem Y8{a b c d e f g h:Prop}(a1:a)(b1:b)(c1:c)(d1:d)(e1:e)(f1:f)(g1:g)(h1:h):a∧b∧c∧d∧e∧f∧g∧h:=⟨a1,b1,c1,d1,e1,f1,g1,h1⟩
theorem Y9{a b c d e f g h i:Prop}(a1:a)(b1:b)(c1:c)(d1:d)(e1:e)(f1:f)(g1:g)(h1:h)(i1:i):a∧b∧c∧d∧e∧f∧g∧h∧i:=⟨a1,b1,c1,d1,e1,f1,g1,h1,i1⟩
theorem Y10{a b c d e f g h i j:Prop}(a1:a)(b1:b)(c1:c)(d1:d)(e1:e)(f1:f)(g1:g)(h1:h)(i1:i)(j1:j):a∧b∧c∧d∧e∧f∧g∧h∧i∧j:=⟨a1,b1,c1,d1,e1,f1,g1,h1,i1,j1⟩
theorem Y11{a b c d e f g h i j k:Prop}(a1:a)(b1:b)(c1:c)(d1:d)(e1:e)(f1:f)(g1:g)(h1:h)(i1:i)(j1:j)(k1:k):a∧b∧c∧d∧e∧f∧g∧h∧i∧j∧k:=⟨a1,b1,c1,d1,e1,f1,g1,h1,i1,j1,k1⟩
theorem Y12{a b c d e f g h i j k l:Prop}(a1:a)(b1:b)(c1:c)(d1:d)(e1:e)(f1:f)(g1:g)(h1:h)(i1:i)(j1:j)(k1:k)(l1:l):a∧b∧c∧d∧e∧f∧g∧h∧i∧j∧k∧l:=⟨a1,b1,c1,d1,e1,f1,g1,h1,i1,j1,k1,l1⟩
theorem gw1{G R:Prop}(r:R)(e:R→G:=by (intro r;(repeat' (first|refine QQ (kk 3) ?_|with_reducible ((first|apply QS (qQ 11) (Tab.none.at' 57 h1)|apply QC);refine QW ?_;simp only [Zg,Zi,seval,reduceCtorEq,Nat.reduceEqDiff,eL];rfl)));exact r)):G:=e r
theorem gw3{G R:Prop}(r:R)(e:R→G:=by (intro r;(repeat' (first|refine QQ (kk 3) ?_|with_reducible ((first|apply QS (qQ 11) (((Tab.none.at' 57 h1).at' 91 h2).at' 180 h3)|apply QC);refine QW ?_;simp only [Zg,Zi,seval,reduceCtorEq,Nat.reduceEqDiff,eL];rfl)));exact r)):G:=e r
theorem gw4{G R:Prop}(r:R)(e:R→G:=by (intro r;(repeat' (first|refine QQ (kk 3) ?_|with_reducible ((first|apply QS (qQ 11) (Tab.none.at' 188 h1)|apply QC);refine QW ?_;simp only [Zg,Zi,seval,reduceCtorEq,Nat.reduceEqDiff,eL];rfl)));exact r)):G:=e r
theorem gw5{G R:Prop}(r:R)(e:R→G:=by (intro r;(repeat' (first|refine QQ (kk 3) ?_|with_reducible ((first|apply QS (qQ 11) (((Tab.none.at' 188 h1).at' 186 h2).at' 189 h3)|apply QC);refine QW ?_;simp only [Zg,Zi,seval,reduceCtorEq,Nat.reduceEqDiff,eL];rfl)));exact r)):G:=e r
theorem gw6{G R C:Prop}(F:C)(r:R)(e:C→R→G:=by (intro F r;(repeat' (first|refine QQ (kk 11) ?_|with_reducible ((first|apply QS (qQ 33) TFor|apply QC);refine QW ?_;simp only [Zg,Zi,seval,reduceCtorEq,Nat.reduceEqDiff,TFor,eL,F];rfl)));exact r)):G:=e F r
theorem gw8{G R C:Prop}(F:C)(r:R)(e:C→R→G:=by (intro F r;(repeat' (first|refine QQ (kk 11) ?_|with_reducible ((first|apply QS (qQ 33) TFor|apply QC);refine QW ?_;simp only [Zg,Zi,seval,reduceCtorEq,Nat.reduceEqDiff,TFor,Int.toNat_natCast,List.length_map,F];rfl)));exact r)):G:=e F r
theorem gw9{G R C:Prop}(F:C)(r:R)(e:C→R→G:=by (intro F r;(repeat' (first|refine QQ (kk 11) ?_|with_reducible ((first|apply QS (qQ 33) TFor|apply QC);refine QW ?_;simp only [Zg,Zi,seval,reduceCtorEq,Nat.reduceEqDiff,TFor,F];rfl)));exact r)):G:=e F r
theorem gw10{G R C:Prop}(F:C)(r:R)(e:C→R→G:=by (intro F r;(repeat' (first|refine QQ (kk 4) ?_|with_reducible ((first|apply QS (qQ 35) qM|apply QC);refine QW ?_;simp only [Zg,Zi,seval,reduceCtorEq,Nat.reduceEqDiff,qM,eL,F];rfl)|with_reducible (apply QD (qQ 35) qM qB;(refine QW ?_;simp only [Zg,Zd,Zi,seval,reduceCtorEq,Nat.reduceEqDiff,qM,eL,F];rfl);refine QK ?_;simp only [Zk];kernel_rfl)));exact r)):G:=e F r
theorem gw11{G R C:Prop}(F:C)(r:R)(e:C→R→G:=by (intro F r;(repeat' (first|refine QQ (kk 4) ?_|with_reducible ((first|apply QS (qQ 35) qM|apply QC);refine QW ?_;simp only [Zg,Zi,seval,reduceCtorEq,Nat.reduceEqDiff,qM,Int.toNat_natCast,List.length_map,F];rfl)|with_reducible (apply QD (qQ 35) qM qB;(refine QW ?_;simp only [Zg,Zd,Zi,seval,reduceCtorEq,Nat.reduceEqDiff,qM,Int.toNat_natCast,List.length_map,F];rfl);refine QK ?_;simp only [Zk];kernel_rfl)));exact r)):G:=e F r
theorem gw12{G R:Prop}(r:R)(e:R→G:=by (intro r;(repeat' (first|refine QQ (kk 4) ?_|with_reducible ((first|apply QS (qQ 35) qM|apply QC);refine QW ?_;simp only [Zg,Zi,seval,reduceCtorEq,Nat.reduceEqDiff,qM];rfl)|with_reducible (apply QD (qQ 35) qM qB;(refine QW ?_;simp only [Zg,Zd,Zi,seval,reduceCtorEq,Nat.reduceEqDiff,qM];rfl);refine QK ?_;simp only [Zk];kernel_rfl)));exact r)):G:=e r
theorem gw13{G R C:Prop}(F:C)(r:R)(e:C→R→G:=by (intro F r;(repeat' (first|refine QQ (kk 4) ?_|with_reducible ((first|apply QS (qQ 35) qM|apply QC);refine QW ?_;simp only [Zg,Zi,seval,reduceCtorEq,Nat.reduceEqDiff,qM,List.length_map,F];rfl)|with_reducible (apply QD (qQ 35) qM qB;(refine QW ?_;simp only [Zg,Zd,Zi,seval,reduceCtorEq,Nat.reduceEqDiff,qM,List.length_map,F];rfl);refine QK ?_;simp only [Zk];kernel_rfl)));exact r)):G:=e F r
theorem gw14{G R C:Prop}(F:C)(r:R)(e:C→R→G:=by (intro F r;(repeat' (first|refine QQ (kk 6) ?_|with_reducible ((first|apply QS (qQ 42) qM|apply QC);refine QW ?_;simp only [Zg,Zi,seval,reduceCtorEq,Nat.reduceEqDiff,qM,eL,List.length_map,F];rfl)|with_reducible (apply QD (qQ 42) qM qB;(refine QW ?_;simp only [Zg,Zd,Zi,seval,reduceCtorEq,Nat.reduceEqDiff,qM,eL,List.length_map,F];rfl);refine QK ?_;simp only [Zk];kernel_rfl)));exact r)):G:=e F r
theorem gw15{G R C:Prop}(F:C)(r:R)(e:C→R→G:=by (intro F r;(repeat' (first|refine QQ (kk 6) ?_|with_reducible ((first|apply QS (qQ 42) qM|apply QC);refine QW ?_;simp only [Zg,Zi,seval,reduceCtorEq,Nat.reduceEqDiff,qM,Int.toNat_natCast,List.length_map,F];rfl)|with_reducible (apply QD (qQ 42) qM qB;(refine QW ?_;simp only [Zg,Zd,Zi,seval,reduceCtorEq,Nat.reduceEqDiff,qM,Int.toNat_natCast,List.length_map,F];rfl);refine QK ?_;simp only [Zk];kernel_rfl)));exact r)):G:=e F r
theorem gw16{G R:Prop}(r:R)(e:R→G:=by (intro r;(repeat' (first|refine QQ (kk 6) ?_|with_reducible ((first|apply QS (qQ 42) qM|apply QC);refine QW ?_;simp only [Zg,Zi,seval,reduceCtorEq,Nat.reduceEqDiff,qM];rfl)|with_reducible (apply QD (qQ 42) qM qB;(refine QW ?_;simp only [Zg,Zd,Zi,seval,reduceCtorEq,Nat.reduceEqDiff,qM];rfl);refine QK ?_;simp only [Zk];kernel_rfl)));exact r)):G:=e r
theorem gw17{G R C:Prop}(F:C)(r:R)(e:C→R→G:=by (intro F r;(repeat' (first|refine QQ (kk 6) ?_|with_reducible ((first|apply QS (qQ 42) qM|apply QC);refine QW ?_;simp only [Zg,Zi,seval,reduceCtorEq,Nat.reduceEqDiff,qM,List.length_map,F];rfl)|with_reducible (apply QD (qQ 42) qM qB;(refine QW ?_;simp only [Zg,Zd,Zi,seval,reduceCtorEq,Nat.reduceEqDiff,qM,List.length_map,F];rfl);refine QK ?_;simp only [Zk];kernel_rfl)));exact r)):G:=e F r
theorem gw18{G R C:Prop}(F:C)(r:R)(e:C→R→G:=by (intro F r;(repeat' (first|refine QQ (kk 7) ?_|with_reducible ((first|apply QS (qQ 20) ((qM.at' 195 hc))|apply QC);refine QW ?_;simp only [Zg,Zi,seval,reduceCtorEq,Nat.reduceEqDiff,qM,eL,F];rfl)));exact r)):G:=e F r
theorem gw19{G R C:Prop}(F:C)(r:R)(e:C→R→G:=by (intro F r;(repeat' (first|refine QQ (kk 11) ?_|with_reducible ((first|apply QS (qQ 47) TEl|apply QC);refine QW ?_;simp only [Zg,Zi,seval,reduceCtorEq,Nat.reduceEqDiff,TEl,List.length_map,F];rfl)|with_reducible (apply QD (qQ 47) TEl qB;(refine QW ?_;simp only [Zg,Zd,Zi,seval,reduceCtorEq,Nat.reduceEqDiff,TEl,List.length_map,F];rfl);refine QK ?_;simp only [Zk];kernel_rfl)));exact r)):G:=e F r
theorem gw21{G R C:Prop}(F:C)(r:R)(e:C→R→G:=by (intro F r;(repeat' (first|refine QQ (kk 11) ?_|with_reducible ((first|apply QS (qQ 47) TEl|apply QC);refine QW ?_;simp only [Zg,Zi,seval,reduceCtorEq,Nat.reduceEqDiff,TEl,Int.toNat_natCast,List.length_map,F];rfl)|with_reducible (apply QD (qQ 47) TEl qB;(refine QW ?_;simp only [Zg,Zd,Zi,seval,reduceCtorEq,Nat.reduceEqDiff,TEl,Int.toNat_natCast,List.length_map,F];rfl);refine QK ?_;simp only [Zk];kernel_rfl)));exact r)):G:=e F r
theorem gw22{G R C:Prop}(F:C)(r:R)(e:C→R→G:=by (intro F r;(repeat' (first|refine QQ (kk 11) ?_|with_reducible ((first|apply QS (qQ 47) TEl|apply QC);refine QW ?_;simp only [Zg,Zi,seval,reduceCtorEq,Nat.reduceEqDiff,TEl,F];rfl)|with_reducible (apply QD (qQ 47) TEl qB;(refine QW ?_;simp only [Zg,Zd,Zi,seval,reduceCtorEq,Nat.reduceEqDiff,TEl,F];rfl);refine QK ?_;simp only [Zk];kernel_rfl)));exact r)):G:=e F r
theorem gw23{G R C:Prop}(F:C)(r:R)(e:C→R→G:=by (intro F r;(repeat' (first|refine QQ (kk 4) ?_|with_reducible ((first|apply QS (qQ 48) TElS|apply QC);refine QW ?_;simp only [Zg,Zi,seval,reduceCtorEq,Nat.reduceEqDiff,TElS,List.length_map,F];rfl)|with_reducible (apply QD (qQ 48) TElS qB;(refine QW ?_;simp only [Zg,Zd,Zi,seval,reduceCtorEq,Nat.reduceEqDiff,TElS,List.length_map,F];rfl);refine QK ?_;simp only [Zk];kernel_rfl)));exact r)):G:=e F r
theorem gw24{G R C:Prop}(F:C)(r:R)(e:C→R→G:=by (intro F r;(repeat' (first|refine QQ (kk 4) ?_|with_reducible ((first|apply QS (qQ 48) TElS|apply QC);refine QW ?_;simp only [Zg,Zi,seval,reduceCtorEq,Nat.reduceEqDiff,TElS,Int.toNat_natCast,List.length_map,F];rfl)|with_reducible (apply QD (qQ 48) TElS qB;(refine QW ?_;simp only [Zg,Zd,Zi,seval,reduceCtorEq,Nat.reduceEqDiff,TElS,Int.toNat_natCast,List.length_map,F];rfl);refine QK ?_;simp only [Zk];kernel_rfl)));exact r)):G:=e F r
theorem gw25{G R:Prop}(r:R)(e:R→G:=by (intro r;(repeat' (first|refine QQ (kk 4) ?_|with_reducible ((first|apply QS (qQ 48) TElS|apply QC);refine QW ?_;simp only [Zg,Zi,seval,reduceCtorEq,Nat.reduceEqDiff,TElS];rfl)|with_reducible (apply QD (qQ 48) TElS qB;(refine QW ?_;simp only [Zg,Zd,Zi,seval,reduceCtorEq,Nat.reduceEqDiff,TElS];rfl);refine QK ?_;simp only [Zk];kernel_rfl)));exact r)):G:=e r
theorem gw26{G R:Prop}(r:R)(e:R→G:=by (intro r;(repeat' (first|refine QQ (kk 3) ?_|with_reducible ((first|apply QS (qQ 5) ((Tab.none.at' 70 ha))|apply QC);refine QW ?_;simp only [Zg,Zi,seval,reduceCtorEq,Nat.reduceEqDiff];rfl)));exact r)):G:=e r
theorem gw27{G R C:Prop}(F:C)(r:R)(e:C→R→G:=by (intro F r;(repeat' (first|refine QQ (kk 3) ?_|with_reducible ((first|apply QS (qQ 14) Tab.none|apply QC);refine QW ?_;simp only [Zg,Zi,seval,reduceCtorEq,Nat.reduceEqDiff,List.length_map,F];rfl)));exact r)):G:=e F r
theorem gw28{G R C:Prop}(F:C)(r:R)(e:C→R→G:=by (intro F r;(repeat' (first|refine QQ (kk 3) ?_|with_reducible ((first|apply QS (qQ 14) ((Tab.none.at' 130 ha))|apply QC);refine QW ?_;simp only [Zg,Zi,seval,reduceCtorEq,Nat.reduceEqDiff,Int.toNat_natCast,List.length_map,F];rfl)));exact r)):G:=e F r
theorem gw29{G R C:Prop}(F:C)(r:R)(e:C→R→G:=by (intro F r;(repeat' (first|refine QQ (kk 4) ?_|with_reducible ((first|apply QS (qQ 18) ((Tab.none.at' 32 he))|apply QC);refine QW ?_;simp only [Zg,Zi,seval,reduceCtorEq,Nat.reduceEqDiff,List.length_map,F];rfl)));exact r)):G:=e F r
theorem gw30{G R C:Prop}(F:C)(r:R)(e:C→R→G:=by (intro F r;(repeat' (first|refine QQ (kk 4) ?_|with_reducible ((first|apply QS (qQ 18) (((Tab.none.at' 32 he).at' 88 ha))|apply QC);refine QW ?_;simp only [Zg,Zi,seval,reduceCtorEq,Nat.reduceEqDiff,Int.toNat_natCast,List.length_map,F];rfl)));exact r)):G:=e F r
theorem gw31{G R:Prop}(r:R)(e:R→G:=by (intro r;(repeat' (first|refine QQ (kk 4) ?_|with_reducible ((first|apply QS (qQ 18) ((Tab.none.at' 32 he))|apply QC);refine QW ?_;simp only [Zg,Zi,seval,reduceCtorEq,Nat.reduceEqDiff];rfl)));exact r)):G:=e r
theorem gw32{G R C:Prop}(F:C)(r:R)(e:C→R→G:=by (intro F r;(repeat' (first|refine QQ (kk 3) ?_|with_reducible ((first|apply QS (qQ 7) Tab.none|apply QC);refine QW ?_;simp only [Zg,Zi,seval,reduceCtorEq,Nat.reduceEqDiff,z10007,F];rfl)));exact r)):G:=e F r
theorem gw33{G R C:Prop}(F:C)(r:R)(e:C→R→G:=by (intro F r;(repeat' (first|refine QQ (kk 5) ?_|with_reducible ((first|apply QS (qQ 9) TMod|apply QC);refine QW ?_;simp only [Zg,Zi,seval,reduceCtorEq,Nat.reduceEqDiff,TMod,F];rfl)));exact r)):G:=e F r
theorem gw34{G R:Prop}(r:R)(e:R→G:=by (intro r;(repeat' (first|refine QQ (kk 5) ?_|with_reducible ((first|apply QS (qQ 21) Tab.none|apply QC);refine QW ?_;simp only [Zg,Zi,seval,reduceCtorEq,Nat.reduceEqDiff,eL];rfl)));exact r)):G:=e r
theorem gw36{G R C:Prop}(F:C)(r:R)(e:C→R→G:=by (intro F r;(repeat' (first|refine QQ (kk 5) ?_|with_reducible ((first|apply QS (qQ 21) ((Tab.none.at' 133 how))|apply QC);refine QW ?_;simp only [Zg,Zi,seval,reduceCtorEq,Nat.reduceEqDiff,Int.toNat_natCast,List.length_map,F];rfl)));exact r)):G:=e F r
theorem gw38{G R C:Prop}(F:C)(r:R)(e:C→R→G:=by (intro F r;(repeat' (first|refine QQ (kk 5) ?_|with_reducible ((first|apply QS (qQ 21) Tab.none|apply QC);refine QW ?_;simp only [Zg,Zi,seval,reduceCtorEq,Nat.reduceEqDiff,List.length_map,F];rfl)));exact r)):G:=e F r
theorem gw39{G R:Prop}(r:R)(e:R→G:=by (intro r;(repeat' (first|refine QQ (kk 5) ?_|with_reducible ((first|apply QS (qQ 21) Tab.none|apply QC);refine QW ?_;simp only [Zg,Zi,seval,reduceCtorEq,Nat.reduceEqDiff];rfl)));exact r)):G:=e r
theorem gw40{G R C:Prop}(F:C)(r:R)(e:C→R→G:=by (intro F r;(repeat' (first|refine QQ (kk 5) ?_|with_reducible ((first|apply QS (qQ 10) (((Tab.none.at' 67 h1).at' 187 h2))|apply QC);refine QW ?_;simp only [Zg,Zi,seval,reduceCtorEq,Nat.reduceEqDiff,List.length_map,F];rfl)));exact r)):G:=e F r
theorem gw41{G R C:Prop}(F:C)(r:R)(e:C→R→G:=by (intro F r;(repeat' (first|refine QQ (kk 12) ?_|with_reducible ((first|apply QS (qQ 68) Tab.none|apply QC);refine QW ?_;simp only [Zg,Zi,seval,reduceCtorEq,Nat.reduceEqDiff,F];rfl)));exact r)):G:=e F r
theorem gw43{G R C:Prop}(F:C)(r:R)(e:C→R→G:=by (intro F r;(repeat' (first|refine QQ (kk 12) ?_|with_reducible ((first|apply QS (qQ 68) TPut|apply QC);refine QW ?_;simp only [Zg,Zi,seval,reduceCtorEq,Nat.reduceEqDiff,TPut,TPut,z10,z00,zm0,Int.toNat_natCast,List.length_map,F];rfl)));exact r)):G:=e F r
theorem gw45{G R C:Prop}(F:C)(r:R)(e:C→R→G:=by (intro F r;(repeat' (first|refine QQ (kk 12) ?_|with_reducible ((first|apply QS (qQ 68) TPut|apply QC);refine QW ?_;simp only [Zg,Zi,seval,reduceCtorEq,Nat.reduceEqDiff,TPut,TPut,z10,z00,zm0,Int.toNat_natCast,List.length_map,List.length_append,F];rfl)));exact r)):G:=e F r
theorem gw47{G R C:Prop}(F:C)(r:R)(e:C→R→G:=by (intro F r;(repeat' (first|refine QQ (kk 12) ?_|with_reducible ((first|apply QS (qQ 68) Tab.none|apply QC);refine QW ?_;simp only [Zg,Zi,seval,reduceCtorEq,Nat.reduceEqDiff,List.length_map,F];rfl)));exact r)):G:=e F r
theorem gw48{G R C:Prop}(F:C)(r:R)(e:C→R→G:=by (intro F r;(repeat' (first|refine QQ (kk 12) ?_|with_reducible ((first|apply QS (qQ 68) TPut|apply QC);refine QW ?_;simp only [Zg,Zi,seval,reduceCtorEq,Nat.reduceEqDiff,TPut,TPut,List.length_map,F];rfl)));exact r)):G:=e F r
theorem gw50{G R:Prop}(r:R)(e:R→G:=by (intro r;(repeat' (first|refine QQ (kk 9) ?_|with_reducible ((first|apply QS (qQ 31) Tab.none|apply QC);refine QW ?_;simp only [Zg,Zi,seval,reduceCtorEq,Nat.reduceEqDiff];rfl)|with_reducible (apply QD (qQ 31) Tab.none qB;(refine QW ?_;simp only [Zg,Zd,Zi,seval,reduceCtorEq,Nat.reduceEqDiff];rfl);refine QK ?_;simp only [Zk];kernel_rfl)));exact r)):G:=e r
theorem gw51{G R C:Prop}(F:C)(r:R)(e:C→R→G:=by (intro F r;(repeat' (first|refine QQ (kk 9) ?_|with_reducible ((first|apply QS (qQ 31) ((Tab.none.at' 98 hm).at' 137 hput)|apply QC);refine QW ?_;simp only [Zg,Zi,seval,reduceCtorEq,Nat.reduceEqDiff,Int.toNat_natCast,List.length_map,F];rfl)|with_reducible (apply QD (qQ 31) ((Tab.none.at' 98 hm).at' 137 hput) qB;(refine QW ?_;simp only [Zg,Zd,Zi,seval,reduceCtorEq,Nat.reduceEqDiff,Int.toNat_natCast,List.length_map,F];rfl);refine QK ?_;simp only [Zk];kernel_rfl)));exact r)):G:=e F r
theorem gw52{G R C:Prop}(F:C)(r:R)(e:C→R→G:=by (intro F r;(repeat' (first|refine QQ (kk 9) ?_|with_reducible ((first|apply QS (qQ 31) Tab.none|apply QC);refine QW ?_;simp only [Zg,Zi,seval,reduceCtorEq,Nat.reduceEqDiff,List.length_map,F];rfl)|with_reducible (apply QD (qQ 31) Tab.none qB;(refine QW ?_;simp only [Zg,Zd,Zi,seval,reduceCtorEq,Nat.reduceEqDiff,List.length_map,F];rfl);refine QK ?_;simp only [Zk];kernel_rfl)));exact r)):G:=e F r
theorem gw53{G R:Prop}(r:R)(e:R→G:=by (intro r;(repeat' (first|refine QQ (kk 6) ?_|with_reducible ((first|apply QS (qQ 41) Tab.none|apply QC);refine QW ?_;simp only [Zg,Zi,seval,reduceCtorEq,Nat.reduceEqDiff];rfl)|with_reducible (apply QD (qQ 41) Tab.none qB;(refine QW ?_;simp only [Zg,Zd,Zi,seval,reduceCtorEq,Nat.reduceEqDiff];rfl);refine QK ?_;simp only [Zk];kernel_rfl)));exact r)):G:=e r
theorem gw54{G R C:Prop}(F:C)(r:R)(e:C→R→G:=by (intro F r;(repeat' (first|refine QQ (kk 6) ?_|with_reducible ((first|apply QS (qQ 41) TOwn|apply QC);refine QW ?_;simp only [Zg,Zi,seval,reduceCtorEq,Nat.reduceEqDiff,TOwn,TOwn,Int.toNat_natCast,List.length_map,F];rfl)|with_reducible (apply QD (qQ 41) TOwn qB;(refine QW ?_;simp only [Zg,Zd,Zi,seval,reduceCtorEq,Nat.reduceEqDiff,TOwn,TOwn,Int.toNat_natCast,List.length_map,F];rfl);refine QK ?_;simp only [Zk];kernel_rfl)));exact r)):G:=e F r
theorem gw56{G R C:Prop}(F:C)(r:R)(e:C→R→G:=by (intro F r;(repeat' (first|refine QQ (kk 6) ?_|with_reducible ((first|apply QS (qQ 41) Tab.none|apply QC);refine QW ?_;simp only [Zg,Zi,seval,reduceCtorEq,Nat.reduceEqDiff,List.length_map,F];rfl)|with_reducible (apply QD (qQ 41) Tab.none qB;(refine QW ?_;simp only [Zg,Zd,Zi,seval,reduceCtorEq,Nat.reduceEqDiff,List.length_map,F];rfl);refine QK ?_;simp only [Zk];kernel_rfl)));exact r)):G:=e F r
theorem gw57{G R C:Prop}(F:C)(r:R)(e:C→R→G:=by (intro F r;(repeat' (first|refine QQ (kk 5) ?_|with_reducible ((first|apply QS (qQ 12) (Tab.none.pin 82 (nxtE code) hpin)|apply QC);refine QW ?_;simp only [Zg,Zi,seval,reduceCtorEq,Nat.reduceEqDiff,nxtE,F];rfl)));exact r)):G:=e F r
theorem gw59{G R C:Prop}(F:C)(r:R)(e:C→R→G:=by (intro F r;(repeat' (first|refine QQ (kk 7) ?_|with_reducible ((first|apply QS (qQ 29) (Tab.none.pin 82 (nxtE code) hpin)|apply QC);refine QW ?_;simp only [Zg,Zi,seval,reduceCtorEq,Nat.reduceEqDiff,nxtE,F];rfl)));exact r)):G:=e F r
theorem gw60{G R C:Prop}(F:C)(r:R)(e:C→R→G:=by (intro F r;(repeat' (first|refine QQ (kk 7) ?_|with_reducible ((first|apply QS (qQ 29) Tab.none|apply QC);refine QW ?_;simp only [Zg,Zi,seval,reduceCtorEq,Nat.reduceEqDiff,F];rfl)));exact r)):G:=e F r
theorem gw61{G R C:Prop}(F:C)(r:R)(e:C→R→G:=by (intro F r;(repeat' (first|refine QQ (kk 12) ?_|with_reducible ((first|apply QS (qQ 35) ((Tab.none.pin 82 (nxtE code) hpin).pin 126 (drwE code (drw1 (drawG code))) hdw)|apply QC);refine QW ?_;simp only [Zg,Zi,seval,reduceCtorEq,Nat.reduceEqDiff,nxtE,drwE,F];rfl)));exact r)):G:=e F r
theorem gw62{G R C:Prop}(F:C)(r:R)(e:C→R→G:=by (intro F r;(repeat' (first|refine QQ (kk 12) ?_|with_reducible ((first|apply QS (qQ 35) Tab.none|apply QC);refine QW ?_;simp only [Zg,Zi,seval,reduceCtorEq,Nat.reduceEqDiff,F];rfl)));exact r)):G:=e F r
theorem gw63{G R C:Prop}(F:C)(r:R)(e:C→R→G:=by (intro F r;(repeat' (first|refine QQ (kk 8) ?_|with_reducible ((first|apply QS (qQ 60) (Tab.none.pin 82 (nxtE code) hpin)|apply QC);refine QW ?_;simp only [Zg,Zi,seval,reduceCtorEq,Nat.reduceEqDiff,nxtE,F];rfl)));exact r)):G:=e F r
theorem gw64{G R C:Prop}(F:C)(r:R)(e:C→R→G:=by (intro F r;(repeat' (first|refine QQ (kk 8) ?_|with_reducible ((first|apply QS (qQ 60) Tab.none|apply QC);refine QW ?_;simp only [Zg,Zi,seval,reduceCtorEq,Nat.reduceEqDiff,F];rfl)));exact r)):G:=e F r
theorem gw65{G R C:Prop}(F:C)(r:R)(e:C→R→G:=by (intro F r;(repeat' (first|refine QQ (kk 8) ?_|with_reducible ((first|apply QS (qQ 60) ((((Tab.none.pin 82 (nxtE code) hpin).pin 126 (drwE code (drw1 (drawG code))) hdw).at' 186 hca))|apply QC);refine QW ?_;simp only [Zg,Zi,seval,reduceCtorEq,Nat.reduceEqDiff,nxtE,drwE,F];rfl)));exact r)):G:=e F r
theorem gw66{G R C:Prop}(F:C)(r:R)(e:C→R→G:=by (intro F r;(repeat' (first|refine QQ (kk 8) ?_|with_reducible ((first|apply QS (qQ 60) ((((Tab.none.pin 82 (nxtE code) hpin).pin 126 (drwE code (drw1 (drawG code))) hdw).at' 186 hca))|apply QC);refine QW ?_;simp only [Zg,Zi,seval,reduceCtorEq,Nat.reduceEqDiff,nxtE,drwE,Int.toNat_natCast,F];rfl)));exact r)):G:=e F r
theorem gw67{G R C:Prop}(F:C)(r:R)(e:C→R→G:=by (intro F r;(repeat' (first|refine QQ (kk 8) ?_|with_reducible ((first|apply QS (qQ 60) (((((Tab.none.pin 82 (nxtE code) hpin).pin 126 (drwE code (drw1 (drawG code))) hdw).at' 186 hca).at' 133 how))|apply QC);refine QW ?_;simp only [Zg,Zi,seval,reduceCtorEq,Nat.reduceEqDiff,nxtE,drwE,Int.toNat_natCast,F];rfl)));exact r)):G:=e F r
theorem gw68{G R:Prop}(r:R)(e:R→G:=by (intro r;(repeat' (first|refine QQ (kk 8) ?_|with_reducible ((first|apply QS (qQ 60) (Tab.none.at' 187 hso)|apply QC);refine QW ?_;simp only [Zg,Zi,seval,reduceCtorEq,Nat.reduceEqDiff,eL];rfl)));exact r)):G:=e r
theorem gw69{G R C:Prop}(F:C)(r:R)(e:C→R→G:=by (intro F r;(repeat' (first|refine QQ (kk 3) ?_|with_reducible ((first|apply QS (qQ 6) Tab.none|apply QC);refine QW ?_;simp only [Zg,Zi,seval,reduceCtorEq,Nat.reduceEqDiff,List.length_map,F];rfl)));exact r)):G:=e F r
theorem gw70{G R C:Prop}(F:C)(r:R)(e:C→R→G:=by (intro F r;(repeat' (first|refine QQ (kk 11) ?_|with_reducible ((first|apply QS (qQ 32) (((Tab.none.pin 82 (nxtE code) hpin).pin 126 (drwE code (drw1 (drawG code))) hdw).pin 125 (drwE code (drw1 (kX code))) hdf)|apply QC);refine QW ?_;simp only [Zg,Zi,seval,reduceCtorEq,Nat.reduceEqDiff,nxtE,drwE,F];rfl)));exact r)):G:=e F r
theorem gw71{G R C:Prop}(F:C)(r:R)(e:C→R→G:=by (intro F r;(repeat' (first|refine QQ (kk 11) ?_|with_reducible ((first|apply QS (qQ 32) (((Tab.none.pin 82 (nxtE code) hpin).pin 127 (drwE code (drw1 (drawAnyG code))) hda).pin 125 (drwE code (drw1 (kX code))) hdf)|apply QC);refine QW ?_;simp only [Zg,Zi,seval,reduceCtorEq,Nat.reduceEqDiff,nxtE,drwE,F];rfl)));exact r)):G:=e F r
theorem gw72{G R C:Prop}(F:C)(r:R)(e:C→R→G:=by (intro F r;(repeat' (first|refine QQ (kk 11) ?_|with_reducible ((first|apply QS (qQ 32) ((Tab.none.pin 82 (nxtE code) hpin).pin 125 (drwE code (drw1 (kX code))) hdf)|apply QC);refine QW ?_;simp only [Zg,Zi,seval,reduceCtorEq,Nat.reduceEqDiff,nxtE,drwE,F];rfl)));exact r)):G:=e F r
theorem gw73{G R:Prop}(r:R)(e:R→G:=by (intro r;(repeat' (first|refine QQ (kk 11) ?_|with_reducible (apply QC;refine QW ?_;simp only [Zg,Zi,seval,reduceCtorEq,Nat.reduceEqDiff];rfl)));exact r)):G:=e r
theorem gw74{G R:Prop}(r:R)(e:R→G:=by (intro r;(repeat' (first|refine QQ (kk 11) ?_|with_reducible ((first|apply QS (qQ 32) Tab.none|apply QC);refine QW ?_;simp only [Zg,Zi,seval,reduceCtorEq,Nat.reduceEqDiff];rfl)));exact r)):G:=e r
theorem gw75{G R C:Prop}(F:C)(r:R)(e:C→R→G:=by (intro F r;(repeat' (first|refine QQ (kk 6) ?_|with_reducible ((first|apply QS (qQ 20) Tab.none|apply QC);refine QW ?_;simp only [Zg,Zi,seval,reduceCtorEq,Nat.reduceEqDiff,F];rfl)));exact r)):G:=e F r
theorem gw76{G R C:Prop}(F:C)(r:R)(e:C→R→G:=by (intro F r;(repeat' (first|refine QQ (kk 6) ?_|with_reducible (apply QC;refine QW ?_;simp only [Zg,Zi,seval,reduceCtorEq,Nat.reduceEqDiff,F];rfl)));exact r)):G:=e F r
theorem gw77{G R C:Prop}(F:C)(r:R)(e:C→R→G:=by (intro F r;(repeat' (first|refine QQ (kk 6) ?_|with_reducible ((first|apply QS (qQ 20) (Tab.none.at' 98 hma)|apply QC);refine QW ?_;simp only [Zg,Zi,seval,reduceCtorEq,Nat.reduceEqDiff,F];rfl)));exact r)):G:=e F r
theorem gw78{G R:Prop}(r:R)(e:R→G:=by (intro r;(repeat' (first|refine QQ (kk 3) ?_|with_reducible ((first|apply QS (qQ 5) (Tab.none.at' 275 h)|apply QC);refine QW ?_;simp only [Zg,Zi,seval,reduceCtorEq,Nat.reduceEqDiff];rfl)));exact r)):G:=e r
theorem gw79{G R:Prop}(r:R)(e:R→G:=by (intro r;(repeat' (first|refine QQ (kk 5) ?_|with_reducible ((first|apply QS (qQ 11) (((TMod.at' 265 m3).at' 98 m4))|apply QC);refine QW ?_;simp only [Zg,Zi,seval,reduceCtorEq,Nat.reduceEqDiff,TMod];rfl)));exact r)):G:=e r
theorem gw80{G R C:Prop}(F:C)(r:R)(e:C→R→G:=by (intro F r;(repeat' (first|refine QQ (kk 5) ?_|with_reducible ((first|apply QS (qQ 21) (Tab.none.pin 82 (nxtE code) hpin)|apply QC);refine QW ?_;simp only [Zg,Zi,seval,reduceCtorEq,Nat.reduceEqDiff,nxtE,F];rfl)));exact r)):G:=e F r
theorem gw81{G R:Prop}(r:R)(e:R→G:=by (intro r;(repeat' (first|refine QQ (kk 5) ?_|with_reducible (apply QC;refine QW ?_;simp only [Zg,Zi,seval,reduceCtorEq,Nat.reduceEqDiff];rfl)));exact r)):G:=e r
theorem gw82{G R C:Prop}(F:C)(r:R)(e:C→R→G:=by (intro F r;(repeat' (first|refine QQ (kk 5) ?_|with_reducible ((first|apply QS (qQ 21) ((Tab.none.pin 82 (nxtE code) hpin).at' 232 hfr)|apply QC);refine QW ?_;simp only [Zg,Zi,seval,reduceCtorEq,Nat.reduceEqDiff,nxtE,F];rfl)));exact r)):G:=e F r
theorem gw83{G R C:Prop}(F:C)(r:R)(e:C→R→G:=by (intro F r;(repeat' (first|refine QQ (kk 9) ?_|with_reducible ((first|apply QS (qQ 26) (Tab.none.pin 82 (nxtE code) hpin)|apply QC);refine QW ?_;simp only [Zg,Zi,seval,reduceCtorEq,Nat.reduceEqDiff,nxtE,F];rfl)));exact r)):G:=e F r
theorem gw84{G R C:Prop}(F:C)(r:R)(e:C→R→G:=by (intro F r;(repeat' (first|refine QQ (kk 9) ?_|with_reducible (apply QC;refine QW ?_;simp only [Zg,Zi,seval,reduceCtorEq,Nat.reduceEqDiff,F];rfl)));exact r)):G:=e F r
theorem gw85{G R C:Prop}(F:C)(r:R)(e:C→R→G:=by (intro F r;(repeat' (first|refine QQ (kk 9) ?_|with_reducible (apply QC;refine QW ?_;simp only [Zg,Zi,seval,reduceCtorEq,Nat.reduceEqDiff,drwE,nxtE,F];rfl)));exact r)):G:=e F r
theorem gw86{G R C:Prop}(F:C)(r:R)(e:C→R→G:=by (intro F r;(repeat' (first|refine QQ (kk 9) ?_|with_reducible ((first|apply QS (qQ 26) Tab.none|apply QC);refine QW ?_;simp only [Zg,Zi,seval,reduceCtorEq,Nat.reduceEqDiff,F];rfl)));exact r)):G:=e F r
theorem gw87{G R C:Prop}(F:C)(r:R)(e:C→R→G:=by (intro F r;(repeat' (first|refine QQ (kk 14) ?_|with_reducible ((first|apply QS (qQ 37) (((Tab.none.pin 82 (nxtE code) hpin).pin 146 (drwE code (drw2 (drawElG code))) hdw).pin 63 (drwE code (drw1 (wW code))) hfa)|apply QC);refine QW ?_;simp only [Zg,Zi,seval,reduceCtorEq,Nat.reduceEqDiff,nxtE,drwE,F];rfl)));exact r)):G:=e F r
theorem gw88{G R C:Prop}(F:C)(r:R)(e:C→R→G:=by (intro F r;(repeat' (first|refine QQ (kk 14) ?_|with_reducible ((first|apply QS (qQ 37) (((Tab.none.pin 82 (nxtE code) hpin).pin 146 (drwE code (drw2 (drawElG code))) hdw))|apply QC);refine QW ?_;simp only [Zg,Zi,seval,reduceCtorEq,Nat.reduceEqDiff,nxtE,drwE,F];rfl)));exact r)):G:=e F r
theorem gw89{G R:Prop}(r:R)(e:R→G:=by (intro r;(repeat' (first|refine QQ (kk 14) ?_|with_reducible (apply QC;refine QW ?_;simp only [Zg,Zi,seval,reduceCtorEq,Nat.reduceEqDiff];rfl)));exact r)):G:=e r
theorem gw90{G R:Prop}(r:R)(e:R→G:=by (intro r;(repeat' (first|refine QQ (kk 14) ?_|with_reducible ((first|apply QS (qQ 37) Tab.none|apply QC);refine QW ?_;simp only [Zg,Zi,seval,reduceCtorEq,Nat.reduceEqDiff];rfl)));exact r)):G:=e r
theorem gw91{G R C:Prop}(F:C)(r:R)(e:C→R→G:=by (intro F r;(repeat' (first|refine QQ (kk 5) ?_|with_reducible ((first|apply QS (qQ 15) (TDwE hc hl)|apply QC);refine QW ?_;simp only [Zg,Zi,seval,reduceCtorEq,Nat.reduceEqDiff,TDwE,drwE,nxtE,srcD_len,F];rfl)));exact r)):G:=e F r
theorem gw92{G R C:Prop}(F:C)(r:R)(e:C→R→G:=by (intro F r;(repeat' (first|refine QQ (kk 9) ?_|with_reducible ((first|apply QS (qQ 19) Tab.none|apply QC);refine QW ?_;simp only [Zg,Zi,seval,reduceCtorEq,Nat.reduceEqDiff,F];rfl)));exact r)):G:=e F r
theorem gw94{G R C:Prop}(F:C)(r:R)(e:C→R→G:=by (intro F r;(repeat' (first|refine QQ (kk 8) ?_|with_reducible ((first|apply QS (qQ 42) (Tab.none.at' 197 hidx)|apply QC);refine QW ?_;simp only [Zg,Zi,seval,reduceCtorEq,Nat.reduceEqDiff,idxI,F];rfl)));exact r)):G:=e F r
theorem gw95{G R C:Prop}(F:C)(r:R)(e:C→R→G:=by (intro F r;(repeat' (first|refine QQ (kk 8) ?_|with_reducible ((first|apply QS (qQ 42) Tab.none|apply QC);refine QW ?_;simp only [Zg,Zi,seval,reduceCtorEq,Nat.reduceEqDiff,F];rfl)));exact r)):G:=e F r
theorem gw96{G R C:Prop}(F:C)(r:R)(e:C→R→G:=by (intro F r;(repeat' (first|refine QQ (kk 3) ?_|with_reducible ((first|apply QS (qQ 6) Tab.none|apply QC);refine QW ?_;simp only [Zg,Zi,seval,reduceCtorEq,Nat.reduceEqDiff,F];rfl)));exact r)):G:=e F r
theorem gw97{G R:Prop}(r:R)(e:R→G:=by (intro r;(repeat' (first|refine QQ (kk 15) ?_|with_reducible ((first|apply QS (qQ 62) ((Tab.none.at' 149 hcl))|apply QC);refine QW ?_;simp only [Zg,Zi,seval,reduceCtorEq,Nat.reduceEqDiff];rfl)|with_reducible (apply QD (qQ 62) ((Tab.none.at' 149 hcl)) qB;(refine QW ?_;simp only [Zg,Zd,Zi,seval,reduceCtorEq,Nat.reduceEqDiff];rfl);refine QK ?_;simp only [Zk];kernel_rfl)));exact r)):G:=e r
theorem gw98{G R:Prop}(r:R)(e:R→G:=by (intro r;(repeat' (first|refine QQ (kk 15) ?_|with_reducible ((first|apply QS (qQ 62) Tab.none|apply QC);refine QW ?_;simp only [Zg,Zi,seval,reduceCtorEq,Nat.reduceEqDiff,List.length_map];rfl)));exact r)):G:=e r
theorem gw100{G R C:Prop}(F:C)(r:R)(e:C→R→G:=by (intro F r;(repeat' (first|refine QQ (kk 15) ?_|with_reducible ((first|apply QS (qQ 62) TSm|apply QC);refine QW ?_;simp only [Zg,Zi,seval,reduceCtorEq,Nat.reduceEqDiff,TSm,TSm,Int.toNat_natCast,List.length_map,List.length_nil,F];rfl)|with_reducible (apply QD (qQ 62) TSm qB;(refine QW ?_;simp only [Zg,Zd,Zi,seval,reduceCtorEq,Nat.reduceEqDiff,TSm,TSm,Int.toNat_natCast,List.length_map,List.length_nil,F];rfl);refine QK ?_;simp only [Zk];kernel_rfl)));exact r)):G:=e F r
theorem gw102{G R C:Prop}(F:C)(r:R)(e:C→R→G:=by (intro F r;(repeat' (first|refine QQ (kk 15) ?_|with_reducible ((first|apply QS (qQ 62) TCf|apply QC);refine QW ?_;simp only [Zg,Zi,seval,reduceCtorEq,Nat.reduceEqDiff,TCf,TCf,Int.toNat_natCast,List.length_map,F];rfl)|with_reducible (apply QD (qQ 62) TCf qB;(refine QW ?_;simp only [Zg,Zd,Zi,seval,reduceCtorEq,Nat.reduceEqDiff,TCf,TCf,Int.toNat_natCast,List.length_map,F];rfl);refine QK ?_;simp only [Zk];kernel_rfl)));exact r)):G:=e F r
theorem gw103{G R C:Prop}(F:C)(r:R)(e:C→R→G:=by (intro F r;(repeat' (first|refine QQ (kk 15) ?_|with_reducible ((first|apply QS (qQ 62) TSm|apply QC);refine QW ?_;simp only [Zg,Zi,seval,reduceCtorEq,Nat.reduceEqDiff,TSm,TSm,Int.toNat_natCast,List.length_map,F];rfl)|with_reducible (apply QD (qQ 62) TSm qB;(refine QW ?_;simp only [Zg,Zd,Zi,seval,reduceCtorEq,Nat.reduceEqDiff,TSm,TSm,Int.toNat_natCast,List.length_map,F];rfl);refine QK ?_;simp only [Zk];kernel_rfl)));exact r)):G:=e F r
theorem gw104{G R C:Prop}(F:C)(r:R)(e:C→R→G:=by (intro F r;(repeat' (first|refine QQ (kk 15) ?_|with_reducible ((first|apply QS (qQ 62) Tab.none|apply QC);refine QW ?_;simp only [Zg,Zi,seval,reduceCtorEq,Nat.reduceEqDiff,F];rfl)|with_reducible (apply QD (qQ 62) Tab.none qB;(refine QW ?_;simp only [Zg,Zd,Zi,seval,reduceCtorEq,Nat.reduceEqDiff,F];rfl);refine QK ?_;simp only [Zk];kernel_rfl)));exact r)):G:=e F r
theorem gw105{G R:Prop}(r:R)(e:R→G:=by (intro r;(repeat' (first|refine QQ (kk 15) ?_|with_reducible ((first|apply QS (qQ 62) (Tab.none.own' 153 0 hdel)|apply QC);refine QW ?_;simp only [Zg,Zi,seval,reduceCtorEq,Nat.reduceEqDiff,Tab.own',atOwn_eq,List.length_map];rfl)|with_reducible (apply QD (qQ 62) (Tab.none.own' 153 0 hdel) qB;(refine QW ?_;simp only [Zg,Zd,Zi,seval,reduceCtorEq,Nat.reduceEqDiff,Tab.own',atOwn_eq,List.length_map];rfl);refine QK ?_;simp only [Zk];kernel_rfl)));exact r)):G:=e r
theorem gw106{G R:Prop}(r:R)(e:R→G:=by (intro r;(repeat' (first|refine QQ (kk 12) ?_|with_reducible ((first|apply QS (qQ 29) Tab.none|apply QC);refine QW ?_;simp only [Zg,Zi,seval,reduceCtorEq,Nat.reduceEqDiff];rfl)|with_reducible (apply QD (qQ 29) Tab.none qB;(refine QW ?_;simp only [Zg,Zd,Zi,seval,reduceCtorEq,Nat.reduceEqDiff];rfl);refine QK ?_;simp only [Zk];kernel_rfl)));exact r)):G:=e r
theorem gw108{G R C:Prop}(F:C)(r:R)(e:C→R→G:=by (intro F r;(repeat' (first|refine QQ (kk 12) ?_|with_reducible ((first|apply QS (qQ 29) TSm|apply QC);refine QW ?_;simp only [Zg,Zi,seval,reduceCtorEq,Nat.reduceEqDiff,TSm,TSm,Int.toNat_natCast,F];rfl)|with_reducible (apply QD (qQ 29) TSm qB;(refine QW ?_;simp only [Zg,Zd,Zi,seval,reduceCtorEq,Nat.reduceEqDiff,TSm,TSm,Int.toNat_natCast,F];rfl);refine QK ?_;simp only [Zk];kernel_rfl)));exact r)):G:=e F r
theorem gw109{G R C:Prop}(F:C)(r:R)(e:C→R→G:=by (intro F r;(repeat' (first|refine QQ (kk 12) ?_|with_reducible ((first|apply QS (qQ 29) Tab.none|apply QC);refine QW ?_;simp only [Zg,Zi,seval,reduceCtorEq,Nat.reduceEqDiff,List.length_map,F];rfl)|with_reducible (apply QD (qQ 29) Tab.none qB;(refine QW ?_;simp only [Zg,Zd,Zi,seval,reduceCtorEq,Nat.reduceEqDiff,List.length_map,F];rfl);refine QK ?_;simp only [Zk];kernel_rfl)));exact r)):G:=e F r
theorem gw110{G R:Prop}(r:R)(e:R→G:=by (intro r;(repeat' (first|refine QQ (kk 6) ?_|with_reducible ((first|apply QS (qQ 18) (Tab.none.at' 32 h1)|apply QC);refine QW ?_;simp only [Zg,Zi,seval,reduceCtorEq,Nat.reduceEqDiff];rfl)));exact r)):G:=e r
theorem gw111{G R:Prop}(r:R)(e:R→G:=by (intro r;(repeat' (first|refine QQ (kk 6) ?_|with_reducible ((first|apply QS (qQ 18) ((Tab.none.at' 32 h1).at' 86 h2)|apply QC);refine QW ?_;simp only [Zg,Zi,seval,reduceCtorEq,Nat.reduceEqDiff];rfl)));exact r)):G:=e r
theorem gw112{G R:Prop}(r:R)(e:R→G:=by (intro r;(repeat' (first|refine QQ (kk 6) ?_|with_reducible ((first|apply QS (qQ 18) ((((Tab.none.at' 32 h1).at' 86 h2).at' 75 h3).at' 89 h4)|apply QC);refine QW ?_;simp only [Zg,Zi,seval,reduceCtorEq,Nat.reduceEqDiff];rfl)));exact r)):G:=e r
theorem gw113{G R:Prop}(r:R)(e:R→G:=by (intro r;(repeat' (first|refine QQ (kk 7) ?_|with_reducible (apply QC;refine QW ?_;simp only [Zg,Zi,seval,reduceCtorEq,Nat.reduceEqDiff];rfl)));exact r)):G:=e r
theorem gw114{G R C:Prop}(F:C)(r:R)(e:C→R→G:=by (intro F r;(repeat' (first|refine QQ (kk 7) ?_|with_reducible ((first|apply QS (qQ 25) (TDwE hc hl)|apply QC);refine QW ?_;simp only [Zg,Zi,seval,reduceCtorEq,Nat.reduceEqDiff,TDwE,drwE,nxtE,srcD_len,F];rfl)));exact r)):G:=e F r
theorem gw115{G R C:Prop}(F:C)(r:R)(e:C→R→G:=by (intro F r;(repeat' (first|refine QQ (kk 7) ?_|with_reducible ((first|apply QS (qQ 25) ((TDwE hc hl).at' 70 his)|apply QC);refine QW ?_;simp only [Zg,Zi,seval,reduceCtorEq,Nat.reduceEqDiff,TDwE,drwE,nxtE,srcD_len,F];rfl)));exact r)):G:=e F r
theorem gw116{G R C:Prop}(F:C)(r:R)(e:C→R→G:=by (intro F r;(repeat' (first|refine QQ (kk 7) ?_|with_reducible ((first|apply QS (qQ 25) (((TDwE hc hl).at' 70 his).at' 71 hadd)|apply QC);refine QW ?_;simp only [Zg,Zi,seval,reduceCtorEq,Nat.reduceEqDiff,TDwE,drwE,nxtE,srcD_len,F];rfl)));exact r)):G:=e F r
theorem gw117{G R C:Prop}(F:C)(r:R)(e:C→R→G:=by (intro F r;(repeat' (first|refine QQ (kk 6) ?_|with_reducible ((first|apply QS (qQ 26) Tab.none|apply QC);refine QW ?_;simp only [Zg,Zi,seval,reduceCtorEq,Nat.reduceEqDiff,F];rfl)|with_reducible (apply QD (qQ 26) Tab.none qB;(refine QW ?_;simp only [Zg,Zd,Zi,seval,reduceCtorEq,Nat.reduceEqDiff,F];rfl);refine QK ?_;simp only [Zk];kernel_rfl)));exact r)):G:=e F r
theorem gw119{G R C:Prop}(F:C)(r:R)(e:C→R→G:=by (intro F r;(repeat' (first|refine QQ (kk 6) ?_|with_reducible ((first|apply QS (qQ 26) Tab.none|apply QC);refine QW ?_;simp only [Zg,Zi,seval,reduceCtorEq,Nat.reduceEqDiff,Int.toNat_natCast,F];rfl)|with_reducible (apply QD (qQ 26) Tab.none qB;(refine QW ?_;simp only [Zg,Zd,Zi,seval,reduceCtorEq,Nat.reduceEqDiff,Int.toNat_natCast,F];rfl);refine QK ?_;simp only [Zk];kernel_rfl)));exact r)):G:=e F r
theorem gw120{G R C:Prop}(F:C)(r:R)(e:C→R→G:=by (intro F r;(repeat' (first|refine QQ (kk 6) ?_|with_reducible ((first|apply QS (qQ 27) Tab.none|apply QC);refine QW ?_;simp only [Zg,Zi,seval,reduceCtorEq,Nat.reduceEqDiff,F];rfl)|with_reducible (apply QD (qQ 27) Tab.none qB;(refine QW ?_;simp only [Zg,Zd,Zi,seval,reduceCtorEq,Nat.reduceEqDiff,F];rfl);refine QK ?_;simp only [Zk];kernel_rfl)));exact r)):G:=e F r
theorem gw121{G R C:Prop}(F:C)(r:R)(e:C→R→G:=by (intro F r;(repeat' (first|refine QQ (kk 6) ?_|with_reducible ((first|apply QS (qQ 27) (Tab.none.at' 101 hsm)|apply QC);refine QW ?_;simp only [Zg,Zi,seval,reduceCtorEq,Nat.reduceEqDiff,Int.toNat_natCast,F];rfl)|with_reducible (apply QD (qQ 27) (Tab.none.at' 101 hsm) qB;(refine QW ?_;simp only [Zg,Zd,Zi,seval,reduceCtorEq,Nat.reduceEqDiff,Int.toNat_natCast,F];rfl);refine QK ?_;simp only [Zk];kernel_rfl)));exact r)):G:=e F r
theorem gw122{G R C:Prop}(F:C)(r:R)(e:C→R→G:=by (intro F r;(repeat' (first|refine QQ (kk 6) ?_|with_reducible ((first|apply QS (qQ 42) Tab.none|apply QC);refine QW ?_;simp only [Zg,Zi,seval,reduceCtorEq,Nat.reduceEqDiff,F];rfl)|with_reducible (apply QD (qQ 42) Tab.none qB;(refine QW ?_;simp only [Zg,Zd,Zi,seval,reduceCtorEq,Nat.reduceEqDiff,F];rfl);refine QK ?_;simp only [Zk];kernel_rfl)));exact r)):G:=e F r
theorem gw123{G R C:Prop}(F:C)(r:R)(e:C→R→G:=by (intro F r;(repeat' (first|refine QQ (kk 6) ?_|with_reducible ((first|apply QS (qQ 42) (Tab.none.at' 45 hsm)|apply QC);refine QW ?_;simp only [Zg,Zi,seval,reduceCtorEq,Nat.reduceEqDiff,Int.toNat_natCast,F];rfl)|with_reducible (apply QD (qQ 42) (Tab.none.at' 45 hsm) qB;(refine QW ?_;simp only [Zg,Zd,Zi,seval,reduceCtorEq,Nat.reduceEqDiff,Int.toNat_natCast,F];rfl);refine QK ?_;simp only [Zk];kernel_rfl)));exact r)):G:=e F r
theorem gw124{G R C:Prop}(F:C)(r:R)(e:C→R→G:=by (intro F r;(repeat' (first|refine QQ (kk 5) ?_|with_reducible ((first|apply QS (qQ 9) (Tab.none.at' 197 hidx)|apply QC);refine QW ?_;simp only [Zg,Zi,seval,reduceCtorEq,Nat.reduceEqDiff,idxI,F];rfl)));exact r)):G:=e F r
theorem gw125{G R C:Prop}(F:C)(r:R)(e:C→R→G:=by (intro F r;(repeat' (first|refine QQ (kk 3) ?_|with_reducible ((first|apply QS (qQ 7) (Tab.none.at' 88 hn)|apply QC);refine QW ?_;simp only [Zg,Zi,seval,reduceCtorEq,Nat.reduceEqDiff,F];rfl)));exact r)):G:=e F r
theorem gw126{G R C:Prop}(F:C)(r:R)(e:C→R→G:=by (intro F r;(repeat' (first|refine QQ (kk 5) ?_|with_reducible ((first|apply QS (qQ 15) ((Tab.none.at' 89 h1).at' 141 h2)|apply QC);refine QW ?_;simp only [Zg,Zi,seval,reduceCtorEq,Nat.reduceEqDiff,List.length_map,Bool.not_true,F];rfl)));exact r)):G:=e F r
theorem gw127{G R C:Prop}(F:C)(r:R)(e:C→R→G:=by (intro F r;(repeat' (first|refine QQ (kk 5) ?_|with_reducible ((first|apply QS (qQ 15) ((Tab.none.at' 89 h1).at' 141 h2)|apply QC);refine QW ?_;simp only [Zg,Zi,seval,reduceCtorEq,Nat.reduceEqDiff,List.length_map,Bool.not_false,F];rfl)));exact r)):G:=e F r
theorem gw128{G R C:Prop}(F:C)(r:R)(e:C→R→G:=by (intro F r;(repeat' (first|refine QQ (kk 5) ?_|with_reducible ((first|apply QS (qQ 15) (Tab.none.at' 89 h1)|apply QC);refine QW ?_;simp only [Zg,Zi,seval,reduceCtorEq,Nat.reduceEqDiff,List.length_map,F];rfl)));exact r)):G:=e F r
theorem gw129{G R:Prop}(r:R)(e:R→G:=by (intro r;(repeat' (first|refine QQ (kk 28) ?_|with_reducible ((first|apply QS (qQ 36) Tab.none|apply QC);refine QW ?_;simp only [Zg,Zi,seval,reduceCtorEq,Nat.reduceEqDiff,List.length_map];rfl)));exact r)):G:=e r
theorem gw131{G R C:Prop}(F:C)(r:R)(e:C→R→G:=by (intro F r;(repeat' (first|refine QQ (kk 28) ?_|with_reducible ((first|apply QS (qQ 36) Tab.none|apply QC);refine QW ?_;simp only [Zg,Zi,seval,reduceCtorEq,Nat.reduceEqDiff,Int.toNat_natCast,List.length_map,F];rfl)));exact r)):G:=e F r
theorem gw132{G R C:Prop}(F:C)(r:R)(e:C→R→G:=by (intro F r;(repeat' (first|refine QQ (kk 28) ?_|with_reducible ((first|apply QS (qQ 36) Tab.none|apply QC);refine QW ?_;simp only [Zg,Zi,seval,reduceCtorEq,Nat.reduceEqDiff,F];rfl)));exact r)):G:=e F r
theorem gw135{G R:Prop}(r:R)(e:R→G:=by (intro r;(repeat' (first|refine QQ (kk 6) ?_|with_reducible ((first|apply QS (qQ 21) (Tab.none.at' 32 h1)|apply QC);refine QW ?_;simp only [Zg,Zi,seval,reduceCtorEq,Nat.reduceEqDiff];rfl)));exact r)):G:=e r
theorem gw136{G R C:Prop}(F:C)(r:R)(e:C→R→G:=by (intro F r;(repeat' (first|refine QQ (kk 6) ?_|with_reducible ((first|apply QS (qQ 21) TEA|apply QC);refine QW ?_;simp only [Zg,Zi,seval,reduceCtorEq,Nat.reduceEqDiff,TEA,TEA,yY,F];rfl)));exact r)):G:=e F r
theorem gw137{G R C:Prop}(F:C)(r:R)(e:C→R→G:=by (intro F r;(repeat' (first|refine QQ (kk 6) ?_|with_reducible ((first|apply QS (qQ 21) ((TEA.at' 90 hc).at' 77 h4)|apply QC);refine QW ?_;simp only [Zg,Zi,seval,reduceCtorEq,Nat.reduceEqDiff,TEA,yY,F];rfl)));exact r)):G:=e F r
theorem gw138{G R:Prop}(r:R)(e:R→G:=by (intro r;(repeat' (first|refine QQ (kk 6) ?_|with_reducible ((first|apply QS (qQ 20) (Tab.none.at' 70 h1)|apply QC);refine QW ?_;simp only [Zg,Zi,seval,reduceCtorEq,Nat.reduceEqDiff];rfl)));exact r)):G:=e r
theorem gw139{G R C:Prop}(F:C)(r:R)(e:C→R→G:=by (intro F r;(repeat' (first|refine QQ (kk 6) ?_|with_reducible ((first|apply QS (qQ 20) TEAS|apply QC);refine QW ?_;simp only [Zg,Zi,seval,reduceCtorEq,Nat.reduceEqDiff,TEAS,TEAS,yY,F];rfl)));exact r)):G:=e F r
theorem gw140{G R C:Prop}(F:C)(r:R)(e:C→R→G:=by (intro F r;(repeat' (first|refine QQ (kk 6) ?_|with_reducible ((first|apply QS (qQ 20) ((TEAS.at' 71 h3).at' 73 h4)|apply QC);refine QW ?_;simp only [Zg,Zi,seval,reduceCtorEq,Nat.reduceEqDiff,TEAS,yY,F];rfl)));exact r)):G:=e F r
theorem gw141{G R C:Prop}(F:C)(r:R)(e:C→R→G:=by (intro F r;(repeat' (first|refine QQ (kk 20) ?_|with_reducible ((first|apply QS (qQ 44) Tab.none|apply QC);refine QW ?_;simp only [Zg,Zi,seval,reduceCtorEq,Nat.reduceEqDiff,F];rfl)|with_reducible (apply QD (qQ 44) Tab.none qB;(refine QW ?_;simp only [Zg,Zd,Zi,seval,reduceCtorEq,Nat.reduceEqDiff,F];rfl);refine QK ?_;simp only [Zk];kernel_rfl)));exact r)):G:=e F r
theorem gw142{G R C:Prop}(F:C)(r:R)(e:C→R→G:=by (intro F r;(repeat' (first|refine QQ (kk 20) ?_|with_reducible ((first|apply QS (qQ 44) Tab.none|apply QC);refine QW ?_;simp only [Zg,Zi,seval,reduceCtorEq,Nat.reduceEqDiff,Int.toNat_natCast,F];rfl)|with_reducible (apply QD (qQ 44) Tab.none qB;(refine QW ?_;simp only [Zg,Zd,Zi,seval,reduceCtorEq,Nat.reduceEqDiff,Int.toNat_natCast,F];rfl);refine QK ?_;simp only [Zk];kernel_rfl)));exact r)):G:=e F r
theorem gw144{G R C:Prop}(F:C)(r:R)(e:C→R→G:=by (intro F r;(repeat' (first|refine QQ (kk 20) ?_|with_reducible ((first|apply QS (qQ 44) Tab.none|apply QC);refine QW ?_;simp only [Zg,Zi,seval,reduceCtorEq,Nat.reduceEqDiff,List.length_map,F];rfl)|with_reducible (apply QD (qQ 44) Tab.none qB;(refine QW ?_;simp only [Zg,Zd,Zi,seval,reduceCtorEq,Nat.reduceEqDiff,List.length_map,F];rfl);refine QK ?_;simp only [Zk];kernel_rfl)));exact r)):G:=e F r
theorem gw145{G R:Prop}(r:R)(e:R→G:=by (intro r;(repeat' (first|refine QQ (kk 20) ?_|with_reducible ((first|apply QS (qQ 44) (Tab.none.at' 89 h4)|apply QC);refine QW ?_;simp only [Zg,Zi,seval,reduceCtorEq,Nat.reduceEqDiff];rfl)|with_reducible (apply QD (qQ 44) (Tab.none.at' 89 h4) qB;(refine QW ?_;simp only [Zg,Zd,Zi,seval,reduceCtorEq,Nat.reduceEqDiff];rfl);refine QK ?_;simp only [Zk];kernel_rfl)));exact r)):G:=e r
theorem gw146{G R:Prop}(r:R)(e:R→G:=by (intro r;(repeat' (first|refine QQ (kk 6) ?_|with_reducible ((first|apply QS (qQ 20) (Tab.none.at' 32 h1)|apply QC);refine QW ?_;simp only [Zg,Zi,seval,reduceCtorEq,Nat.reduceEqDiff];rfl)));exact r)):G:=e r
theorem gw147{G R C:Prop}(F:C)(r:R)(e:C→R→G:=by (intro F r;(repeat' (first|refine QQ (kk 6) ?_|with_reducible ((first|apply QS (qQ 20) TEA|apply QC);refine QW ?_;simp only [Zg,Zi,seval,reduceCtorEq,Nat.reduceEqDiff,TEA,TEA,yY,F];rfl)));exact r)):G:=e F r
theorem gw148{G R C:Prop}(F:C)(r:R)(e:C→R→G:=by (intro F r;(repeat' (first|refine QQ (kk 6) ?_|with_reducible ((first|apply QS (qQ 20) ((TEA.at' 83 hc).at' 77 h4)|apply QC);refine QW ?_;simp only [Zg,Zi,seval,reduceCtorEq,Nat.reduceEqDiff,TEA,yY,F];rfl)));exact r)):G:=e F r
theorem gw149{G R C:Prop}(F:C)(r:R)(e:C→R→G:=by (intro F r;(repeat' (first|refine QQ (kk 8) ?_|with_reducible ((first|apply QS (qQ 46) Tab.none|apply QC);refine QW ?_;simp only [Zg,Zi,seval,reduceCtorEq,Nat.reduceEqDiff,F];rfl)|with_reducible (apply QD (qQ 46) Tab.none qB;(refine QW ?_;simp only [Zg,Zd,Zi,seval,reduceCtorEq,Nat.reduceEqDiff,F];rfl);refine QK ?_;simp only [Zk];kernel_rfl)));exact r)):G:=e F r
theorem gw152{G R C:Prop}(F:C)(r:R)(e:C→R→G:=by (intro F r;(repeat' (first|refine QQ (kk 8) ?_|with_reducible ((first|apply QS (qQ 46) Tab.none|apply QC);refine QW ?_;simp only [Zg,Zi,seval,reduceCtorEq,Nat.reduceEqDiff,Int.toNat_natCast,F];rfl)|with_reducible (apply QD (qQ 46) Tab.none qB;(refine QW ?_;simp only [Zg,Zd,Zi,seval,reduceCtorEq,Nat.reduceEqDiff,Int.toNat_natCast,F];rfl);refine QK ?_;simp only [Zk];kernel_rfl)));exact r)):G:=e F r
theorem gw154{G R C:Prop}(F:C)(r:R)(e:C→R→G:=by (intro F r;(repeat' (first|refine QQ (kk 8) ?_|with_reducible ((first|apply QS (qQ 46) (((Tab.none.at' 98 hm).at' 148 ht).at' 137 hput)|apply QC);refine QW ?_;simp only [Zg,Zi,seval,reduceCtorEq,Nat.reduceEqDiff,Int.toNat_natCast,F];rfl)|with_reducible (apply QD (qQ 46) (((Tab.none.at' 98 hm).at' 148 ht).at' 137 hput) qB;(refine QW ?_;simp only [Zg,Zd,Zi,seval,reduceCtorEq,Nat.reduceEqDiff,Int.toNat_natCast,F];rfl);refine QK ?_;simp only [Zk];kernel_rfl)));exact r)):G:=e F r
theorem gw155{G R C:Prop}(F:C)(r:R)(e:C→R→G:=by (intro F r;(repeat' (first|refine QQ (kk 8) ?_|with_reducible ((first|apply QS (qQ 46) Tab.none|apply QC);refine QW ?_;simp only [Zg,Zi,seval,reduceCtorEq,Nat.reduceEqDiff,List.length_map,F];rfl)|with_reducible (apply QD (qQ 46) Tab.none qB;(refine QW ?_;simp only [Zg,Zd,Zi,seval,reduceCtorEq,Nat.reduceEqDiff,List.length_map,F];rfl);refine QK ?_;simp only [Zk];kernel_rfl)));exact r)):G:=e F r
theorem gw156{G R:Prop}(r:R)(e:R→G:=by (intro r;(repeat' (first|refine QQ (kk 6) ?_|with_reducible ((first|apply QS (qQ 36) (Tab.none.at' 70 h1)|apply QC);refine QW ?_;simp only [Zg,Zi,seval,reduceCtorEq,Nat.reduceEqDiff];rfl)));exact r)):G:=e r
theorem gw157{G R C:Prop}(F:C)(r:R)(e:C→R→G:=by (intro F r;(repeat' (first|refine QQ (kk 6) ?_|with_reducible ((first|apply QS (qQ 36) TEAS|apply QC);refine QW ?_;simp only [Zg,Zi,seval,reduceCtorEq,Nat.reduceEqDiff,TEAS,TEAS,yY,F];rfl)));exact r)):G:=e F r
theorem gw158{G R C:Prop}(F:C)(r:R)(e:C→R→G:=by (intro F r;(repeat' (first|refine QQ (kk 6) ?_|with_reducible ((first|apply QS (qQ 36) TTS|apply QC);refine QW ?_;simp only [Zg,Zi,seval,reduceCtorEq,Nat.reduceEqDiff,TTS,TTS,TEAS,yY,F];rfl)));exact r)):G:=e F r
theorem gw159{G R C:Prop}(F:C)(r:R)(e:C→R→G:=by (intro F r;(repeat' (first|refine QQ (kk 6) ?_|with_reducible ((first|apply QS (qQ 36) ((TTS.at' 85 h3).at' 73 h4)|apply QC);refine QW ?_;simp only [Zg,Zi,seval,reduceCtorEq,Nat.reduceEqDiff,TTS,TEAS,yY,F];rfl)));exact r)):G:=e F r
theorem gw160{G R:Prop}(r:R)(e:R→G:=by (intro r;(repeat' (first|refine QQ (kk 39) ?_|with_reducible ((first|apply QS (qQ 277) (Tab.none.at' 10 hbg)|apply QC);refine QW ?_;simp only [Zg,Zi,seval,reduceCtorEq,Nat.reduceEqDiff];rfl)));exact r)):G:=e r
theorem gw161{G R C:Prop}(F:C)(r:R)(e:C→R→G:=by (intro F r;(repeat' (first|refine QQ (kk 39) ?_|with_reducible ((first|apply QS (qQ 277) (((TElm.at' 10 hbg).at' 29 hdr).at' 31 h2)|apply QC);refine QW ?_;simp only [Zg,Zi,seval,reduceCtorEq,Nat.reduceEqDiff,TElm,yY,T1,F];rfl)));exact r)):G:=e F r
theorem gw162{G R C:Prop}(F:C)(r:R)(e:C→R→G:=by (intro F r;(repeat' (first|refine QQ (kk 39) ?_|with_reducible (apply QC;refine QW ?_;simp only [Zg,Zi,seval,reduceCtorEq,Nat.reduceEqDiff,TElm,TElm,yY,F];rfl)));exact r)):G:=e F r
theorem gw163{G R C:Prop}(F:C)(r:R)(e:C→R→G:=by (intro F r;(repeat' (first|refine QQ (kk 39) ?_|with_reducible ((first|apply QS (qQ 277) Tab.none|apply QC);refine QW ?_;simp only [Zg,Zi,seval,reduceCtorEq,Nat.reduceEqDiff,List.map_nil,List.length_nil,Int.natCast_zero,F];rfl)));exact r)):G:=e F r
theorem gw164{G R C:Prop}(F:C)(r:R)(e:C→R→G:=by (intro F r;(repeat' (first|refine QQ (kk 39) ?_|with_reducible ((first|apply QS (qQ 277) TElm|apply QC);refine QW ?_;simp only [Zg,Zi,seval,reduceCtorEq,Nat.reduceEqDiff,TElm,TElm,yY,F];rfl)));exact r)):G:=e F r
theorem gw165{G R C:Prop}(F:C)(r:R)(e:C→R→G:=by (intro F r;(repeat' (first|refine QQ (kk 39) ?_|with_reducible (apply QC;refine QW ?_;simp only [Zg,Zi,seval,reduceCtorEq,Nat.reduceEqDiff,TElm,TElm,yY,e3,eq_self,decide_true,F];rfl)));exact r)):G:=e F r
theorem gw166{G R C:Prop}(F:C)(r:R)(e:C→R→G:=by (intro F r;(repeat' (first|refine QQ (kk 39) ?_|with_reducible ((first|apply QS (qQ 277) ((TElm.at' 37 hdr2).at' 39 h3)|apply QC);refine QW ?_;simp only [Zg,Zi,seval,reduceCtorEq,Nat.reduceEqDiff,TElm,yY,T2,List.map_nil,List.length_nil,Int.natCast_zero,F];rfl)));exact r)):G:=e F r
theorem gw167{G R C:Prop}(F:C)(r:R)(e:C→R→G:=by (intro F r;(repeat' (first|refine QQ (kk 39) ?_|with_reducible ((first|apply QS (qQ 277) ((TElm.at' 37 hdr2).at' 39 h3)|apply QC);refine QW ?_;simp only [Zg,Zi,seval,reduceCtorEq,Nat.reduceEqDiff,TElm,yY,T2,F];rfl)));exact r)):G:=e F r
theorem gw168{G R:Prop}(r:R)(e:R→G:=by (intro r;(repeat' (first|refine QQ (kk 39) ?_|with_reducible (apply QC;refine QW ?_;simp only [Zg,Zi,seval,reduceCtorEq,Nat.reduceEqDiff];rfl)));exact r)):G:=e r
theorem gw169{G R C:Prop}(F:C)(r:R)(e:C→R→G:=by (intro F r;(repeat' (first|refine QQ (kk 39) ?_|with_reducible ((first|apply QS (qQ 277) TElm|apply QC);refine QW ?_;simp only [Zg,Zi,seval,reduceCtorEq,Nat.reduceEqDiff,TElm,TElm,yY,eq_self,decide_true,F];rfl)));exact r)):G:=e F r
theorem gw170{G R C:Prop}(F:C)(r:R)(e:C→R→G:=by (intro F r;(repeat' (first|refine QQ (kk 39) ?_|with_reducible ((first|apply QS (qQ 277) Tab.none|apply QC);refine QW ?_;simp only [Zg,Zi,seval,reduceCtorEq,Nat.reduceEqDiff,F];rfl)));exact r)):G:=e F r
theorem gw2{G:Prop}(e:G:=by ((refine Ends.mk (by simp) (rs:=?_) (ks:=?_) hres hrts ?_ ?_ ?_;rotate_left 2;(focus (simp only [Ze,Zg,Zi,seval,reduceCtorEq,Nat.reduceEqDiff];with_reducible rfl));(focus simp);focus (first|with_reducible rfl|(simp only [Zv];done))))):G:=e
theorem gw7{G C:Prop}(F:C)(e:C→G:=by (intro F;(repeat' (first|exact Qn|((with_reducible refine Qr ?_ ?_);focus first|with_reducible rfl|(simp only [Zz,Nat.reduceBEq,F];done)|rfl)|((with_reducible apply Qj);rfl)|((with_reducible refine Qw ?_ ?_);(focus first|with_reducible rfl|(simp only [Zv,F];done));first|exact id|exact nofun|exact fun _=>rfl))))):G:=e F
theorem gw20{G:Prop}(e:G:=by ((repeat' (first|exact Qn|((with_reducible refine Qr ?_ ?_);focus first|with_reducible rfl|(simp only [Zz,Nat.reduceBEq,List.length_map];done)|rfl)|((with_reducible apply Qj);rfl)|((with_reducible refine Qw ?_ ?_);(focus first|with_reducible rfl|(simp only [Zv,List.length_map];done));first|exact id|exact nofun|exact fun _=>rfl))))):G:=e
theorem gw35{G:Prop}(e:G:=by ((repeat' (first|exact Qn|((with_reducible refine Qr ?_ ?_);focus first|with_reducible rfl|(simp only [Zz,Nat.reduceBEq,List.take_zero,List.map_nil];done)|rfl)|((with_reducible apply Qj);rfl)|((with_reducible refine Qw ?_ ?_);(focus first|with_reducible rfl|(simp only [Zv,List.take_zero,List.map_nil];done));first|exact id|exact nofun|exact fun _=>rfl))))):G:=e
theorem gw37{G:Prop}(e:G:=by ((repeat' (first|exact Qn|((with_reducible refine Qr ?_ ?_);focus first|with_reducible rfl|(simp only [Zz,Nat.reduceBEq,eL];done)|rfl)|((with_reducible apply Qj);rfl)|((with_reducible refine Qw ?_ ?_);(focus first|with_reducible rfl|(simp only [Zv,eL];done));first|exact id|exact nofun|exact fun _=>rfl))))):G:=e
theorem gw42{G:Prop}(e:G:=by ((repeat' (first|exact Qn|((with_reducible refine Qr ?_ ?_);focus first|with_reducible rfl|(simp only [Zz,Nat.reduceBEq,List.map_nil,List.length_nil];done)|rfl)|((with_reducible apply Qj);rfl)|((with_reducible refine Qw ?_ ?_);(focus first|with_reducible rfl|(simp only [Zv,List.map_nil,List.length_nil];done));first|exact id|exact nofun|exact fun _=>rfl))))):G:=e
theorem gw44{G:Prop}(e:G:=by ((repeat' (first|exact Qn|((with_reducible refine Qr ?_ ?_);focus first|with_reducible rfl|(simp only [Zz,Nat.reduceBEq,ePt,List.length_append,List.length_singleton];done)|rfl)|((with_reducible apply Qj);rfl)|((with_reducible refine Qw ?_ ?_);(focus first|with_reducible rfl|(simp only [Zv,ePt,List.length_append,List.length_singleton];done));first|exact id|exact nofun|exact fun _=>rfl))))):G:=e
theorem gw46{G C:Prop}(F:C)(e:C→G:=by (intro F;(repeat' (first|exact Qn|((with_reducible refine Qr ?_ ?_);focus first|with_reducible rfl|(simp only [Zz,Nat.reduceBEq,ePt,F];done)|rfl)|((with_reducible apply Qj);rfl)|((with_reducible refine Qw ?_ ?_);(focus first|with_reducible rfl|(simp only [Zv,ePt,F];done));first|exact id|exact nofun|exact fun _=>rfl))))):G:=e F
theorem gw49{G:Prop}(e:G:=by ((refine Ends.mk (by simp) (rs:=?_) (ks:=?_) hres hrts ?_ ?_ ?_;rotate_left 2;(focus (simp only [Ze,Zg,Zi,seval,reduceCtorEq,Nat.reduceEqDiff,ePt];with_reducible rfl));(focus simp);focus (first|with_reducible rfl|(simp only [Zv,ePt];done))))):G:=e
theorem gw55{G:Prop}(e:G:=by ((refine Ends.mk (by simp) (rs:=?_) (ks:=?_) hres hrts ?_ ?_ ?_;rotate_left 2;(focus (simp only [Ze,Zg,Zi,seval,reduceCtorEq,Nat.reduceEqDiff,Bool.not_false];with_reducible rfl));(focus simp);focus (first|with_reducible rfl|(simp only [Zv,Bool.not_false];done))))):G:=e
theorem gw58{G:Prop}(e:G:=by ((refine EndsP.mk (by simp) (rs:=?_) (ks:=?_) (xs':=?_) hres hrts ?_ ?_ ?_ ?_ ?_;rotate_left 3;(focus (simp only [Ze,Zg,Zi,seval,reduceCtorEq,Nat.reduceEqDiff];with_reducible rfl));(focus simp);(focus simp);(focus (simp only [look,Nat.reduceEqDiff,Nat.reduceBEq,if_true,if_false];rfl));focus (first|exact ⟨rfl,rfl⟩|exact ⟨rfl,rfl,rfl⟩|skip)))):G:=e
theorem gw93{G:Prop}(e:G:=by ((refine Ends.mk (by simp) (rs:=?_) (ks:=?_) hres hrts ?_ ?_ ?_;rotate_left 2;(focus (simp only [Ze,Zg,Zi,seval,reduceCtorEq,Nat.reduceEqDiff,idxI];with_reducible rfl));(focus simp);focus (first|with_reducible rfl|(simp only [Zv,idxI];done))))):G:=e
theorem gw99{G:Prop}(e:G:=by ((repeat' (first|exact Qn|((with_reducible refine Qr ?_ ?_);focus first|with_reducible rfl|(simp only [Zz,Nat.reduceBEq,List.map_nil,List.length_map,Int.natCast_zero];done)|rfl)|((with_reducible apply Qj);rfl)|((with_reducible refine Qw ?_ ?_);(focus first|with_reducible rfl|(simp only [Zv,List.map_nil,List.length_map,Int.natCast_zero];done));first|exact id|exact nofun|exact fun _=>rfl))))):G:=e
theorem gw101{G:Prop}(e:G:=by ((repeat' (first|exact Qn|((with_reducible refine Qr ?_ ?_);focus first|with_reducible rfl|(simp only [Zz,Nat.reduceBEq,ePt,List.map_nil];done)|rfl)|((with_reducible apply Qj);rfl)|((with_reducible refine Qw ?_ ?_);(focus first|with_reducible rfl|(simp only [Zv,ePt,List.map_nil];done));first|exact id|exact nofun|exact fun _=>rfl))))):G:=e
theorem gw107{G C:Prop}(F:C)(e:C→G:=by (intro F;(repeat' (first|exact Qn|((with_reducible refine Qr ?_ ?_);focus first|with_reducible rfl|(simp only [Zz,Nat.reduceBEq,List.take_zero,List.map_nil,List.length_map,F];done)|rfl)|((with_reducible apply Qj);rfl)|((with_reducible refine Qw ?_ ?_);(focus first|with_reducible rfl|(simp only [Zv,List.take_zero,List.map_nil,List.length_map,F];done));first|exact id|exact nofun|exact fun _=>rfl))))):G:=e F
theorem gw118{G:Prop}(e:G:=by ((repeat' (first|exact Qn|((with_reducible refine Qr ?_ ?_);focus first|with_reducible rfl|(simp only [Zz,Nat.reduceBEq,Int.natCast_zero];done)|rfl)|((with_reducible apply Qj);rfl)|((with_reducible refine Qw ?_ ?_);(focus first|with_reducible rfl|(simp only [Zv,Int.natCast_zero];done));first|exact id|exact nofun|exact fun _=>rfl))))):G:=e
theorem gw130{G C:Prop}(F:C)(e:C→G:=by (intro F;(repeat' (first|exact Qn|((with_reducible refine Qr ?_ ?_);focus first|with_reducible rfl|(simp only [Zz,Nat.reduceBEq,List.take_zero,List.length_map,F];done)|rfl)|((with_reducible apply Qj);rfl)|((with_reducible refine Qw ?_ ?_);(focus first|with_reducible rfl|(simp only [Zv,List.take_zero,List.length_map,F];done));first|exact id|exact nofun|exact fun _=>rfl))))):G:=e F
theorem gw133{G:Prop}(e:G:=by ((repeat' (first|exact Qn|((with_reducible refine Qr ?_ ?_);focus first|with_reducible rfl|(simp only [Zz,Nat.reduceBEq,List.take_zero,List.flatten_nil,List.map_nil,List.length_map];done)|rfl)|((with_reducible apply Qj);rfl)|((with_reducible refine Qw ?_ ?_);(focus first|with_reducible rfl|(simp only [Zv,List.take_zero,List.flatten_nil,List.map_nil,List.length_map];done));first|exact id|exact nofun|exact fun _=>rfl))))):G:=e
theorem gw134{G:Prop}(e:G:=by ((repeat' (first|exact Qn|((with_reducible refine Qr ?_ ?_);focus first|with_reducible rfl|(simp only [Zz,Nat.reduceBEq,List.take_zero,List.flatten_nil,List.length_map];done)|rfl)|((with_reducible apply Qj);rfl)|((with_reducible refine Qw ?_ ?_);(focus first|with_reducible rfl|(simp only [Zv,List.take_zero,List.flatten_nil,List.length_map];done));first|exact id|exact nofun|exact fun _=>rfl))))):G:=e
theorem gw143{G:Prop}(e:G:=by ((repeat' (first|exact Qn|((with_reducible refine Qr ?_ ?_);focus first|with_reducible rfl|(simp only [Zz,Nat.reduceBEq,List.take_zero,List.map_nil,List.append_nil,List.length_map];done)|rfl)|((with_reducible apply Qj);rfl)|((with_reducible refine Qw ?_ ?_);(focus first|with_reducible rfl|(simp only [Zv,List.take_zero,List.map_nil,List.append_nil,List.length_map];done));first|exact id|exact nofun|exact fun _=>rfl))))):G:=e
theorem gw150{G:Prop}(e:G:=by ((repeat' (first|exact Qn|((with_reducible refine Qr ?_ ?_);focus first|with_reducible rfl|(simp only [Zz,Nat.reduceBEq,St.frz,frzR,frzH,look,AV.frz,AC.frz,drop];done)|rfl)|((with_reducible apply Qj);rfl)|((with_reducible refine Qw ?_ ?_);(focus first|with_reducible rfl|(simp only [Zv,St.frz,frzR,frzH,look,AV.frz,AC.frz,drop];done));first|exact id|exact nofun|exact fun _=>rfl))))):G:=e
theorem gw151{G C:Prop}(F:C)(e:C→G:=by (intro F;(repeat' (first|exact Qn|((with_reducible refine Qr ?_ ?_);focus first|with_reducible rfl|(simp only [Zz,Nat.reduceBEq,List.take_zero,List.map_nil,Int.natCast_zero,F];done)|rfl)|((with_reducible apply Qj);rfl)|((with_reducible refine Qw ?_ ?_);(focus first|with_reducible rfl|(simp only [Zv,List.take_zero,List.map_nil,Int.natCast_zero,F];done));first|exact id|exact nofun|exact fun _=>rfl))))):G:=e F
theorem gw153{G C:Prop}(F:C)(e:C→G:=by (intro F;(repeat' (first|exact Qn|((with_reducible refine Qr ?_ ?_);focus first|with_reducible rfl|(simp only [Zz,Nat.reduceBEq,List.take_zero,Int.natCast_zero,F];done)|rfl)|((with_reducible apply Qj);rfl)|((with_reducible refine Qw ?_ ?_);(focus first|with_reducible rfl|(simp only [Zv,List.take_zero,Int.natCast_zero,F];done));first|exact id|exact nofun|exact fun _=>rfl))))):G:=e F
end
section
theorem a_impl_IsTree (t:List Int):AFn Tryz.prog 118 [eL t] (· = [.val (.bool (canT t))]):=by
 have h1:=a_impl_IsLevels t
 unfold canT
 cases h8:lev8 t
 ·rw [h8] at h1
  rw [Bool.false_and]
  refine AFn.of_runs (qQ 11) Tryz.func118 rfl rfl rfl gz ?_
  have hres:Tryz.f118.results.toList = [.tmp 2]:=rfl
  have hrts:Tryz.f118.resultTypes.toList = [4]:=rfl
  simp only [qV,qU,eL,eI,eLL,eB,Nat.zero_add,Nat.reduceAdd]
  intro M
  refine qJ.of ?_
  refine gw1 ?_
  exact gw2
 ·rw [h8] at h1
  rw [Bool.true_and]
  have h2:=a_canonical t (lev8_lev h8) (lev8_len h8)
  have h3:=a_slicesEqual (canon t) t
  refine AFn.of_runs (qQ 11) Tryz.func118 rfl rfl rfl gz ?_
  have hres:Tryz.f118.results.toList = [.tmp 2]:=rfl
  have hrts:Tryz.f118.resultTypes.toList = [4]:=rfl
  simp only [qV,qU,eL,eI,eLL,eB,Nat.zero_add,Nat.reduceAdd]
  intro M
  refine qJ.of ?_
  refine gw3 ?_
  exact gw2
theorem a_spec_IsTree (t:List Int) (hsz:t.length ≤ 1048576):AFn Tryz.prog 128 [eL t] (· = [.val (.bool (canT t))]):=by
 have h1:=a_spec_l03Is t hsz
 unfold canT
 cases h8:lev8 t
 ·rw [h8] at h1
  rw [Bool.false_and]
  refine AFn.of_runs (qQ 11) Tryz.func128 rfl rfl rfl gz ?_
  have hres:Tryz.f128.results.toList = [.tmp 2]:=rfl
  have hrts:Tryz.f128.resultTypes.toList = [4]:=rfl
  simp only [qV,qU,eL,eI,eLL,eB,Nat.zero_add,Nat.reduceAdd]
  intro M
  refine qJ.of ?_
  refine gw4 ?_
  exact gw2
 ·rw [h8] at h1
  rw [Bool.true_and]
  have h2:=a_l03Canon t (lev8_lev h8) (lev8_len h8)
  have h3:=a_l01Same (canon t) t
  refine AFn.of_runs (qQ 11) Tryz.func128 rfl rfl rfl gz ?_
  have hres:Tryz.f128.results.toList = [.tmp 2]:=rfl
  have hrts:Tryz.f128.resultTypes.toList = [4]:=rfl
  simp only [qV,qU,eL,eI,eLL,eB,Nat.zero_add,Nat.reduceAdd]
  intro M
  refine qJ.of ?_
  refine gw5 ?_
  exact gw2
noncomputable def TFor:Tab Tryz.prog :=
 ((Tab.none.add 118 (tab1 codL fun t => some [.val (.bool (canT t))]) (yJ fun t rs h => by cases h;exact a_impl_IsTree t)).add
   119 (tab2 codL codL fun xs ys => some [.val (.int (cmpT xs ys))]) (xF fun xs ys rs h => by cases h;exact a_compareTrees xs ys)).add
   88 (tab1 codLL fun f => some [.val (.int (jV f))]) (yJ fun f rs h => by cases h;exact a_nodesIn f)
noncomputable def qM:Tab Tryz.prog :=
 ((Tab.none.add 128 (tab1 codL fun t => if t.length ≤ 1048576 then some [.val (.bool (canT t))] else none) (yJ fun t rs h => by split at h;cases h;exact a_spec_IsTree t ‹_›;cases h)).add
   129 (tab2 codL codL fun xs ys => some [.val (.bool (decide (cmpT xs ys < 0)))]) (xF fun xs ys rs h => by cases h;exact a_l03Before xs ys)).add
   130 (tab1 codLL fun f => some [.val (.int (jV f))]) (yJ fun f rs h => by cases h;exact a_l03Nodes f)
theorem kB {n:Nat} {p:Nat→Bool} (h:(List.range n).all p = true) (h2:p n = true):(List.range (n + 1)).all p = true :=
 kO.2 (fun i hi => by
  by_cases e:i = n
  ·rw [e];exact h2
  ·exact kO.1 h i (by omega))
theorem a_impl_IsForest (f:List (List Int)) (hsz:qX f ≤ 1000000000) (hln:f.length ≤ 1000000000):AFn Tryz.prog 59 [eLL f] (· = [.val (.bool (forB f))]):=by
 have hn:jV f = qX f:=xE f (by omega)
 refine AFn.of_runs (qQ 33) Tryz.func59 rfl rfl rfl gz ?_
 have hres:Tryz.f59.results.toList = [.tmp 2]:=rfl
 have hrts:Tryz.f59.resultTypes.toList = [4]:=rfl
 simp only [qV,qU,eL,eI,eLL,eB,Nat.zero_add,Nat.reduceAdd]
 intro M
 refine qJ.of ?_
 by_cases h8:qX f ≤ 8
 ·have i8:((qX f:Int) > 8) = False:=eq_false (by omega)
  refine gw6 (Yp hn i8) ?_
  refine qJ.loop (β:=Nat) (γ:=Unit) (fun i => ⟨[(0,.c (.val (.sl 1 (f.map eL)))),(8,.c (.val (.sl 1 (f.map eL)))),(9,.c (.val (.int f.length))),(10,.c (.val (.int i)))],[]⟩) (fun i => i ≤ f.length∧(List.range i).all (okT f) = true) (fun i => f.length - i)
   (fun _ => ⟨[],[]⟩) (fun _ => (List.range f.length).all (okT f) = true) 0 ⟨Nat.zero_le _,rfl⟩ ?_ ?_ ?_
  ·exact gw7 Y0
  ·rintro i ⟨hi,hall⟩
   have hw:=jW (n:=i) (by omega)
   by_cases h:i < f.length
   ·have i1:((i:Int) < (f.length:Int)) = True:=eq_true (by omega)
    have i2:((0:Int) ≤ (i:Int)) = True:=eq_true (by omega)
    obtain ⟨t,ht⟩:∃ t,t = f[i]:=⟨_,rfl⟩
    have hg:(f.map eL)[i]? = some [.sl 1 (t.map eI)]:=by rw [qN h,ht];rfl
    have hgd:f.getD i [] = t:=by rw [yV h,ht]
    by_cases hc:canT t = true
    ·by_cases h0:i = 0
     ·have j1:((i:Int) > 0) = False:=eq_false (by omega)
      have hok:okT f i = true:=by unfold okT;rw [hgd,hc,h0];rfl
      refine gw8 (Y6 i1 i2 hg hw hc j1) ?_
      refine qW.on (i + 1) ⟨⟨h,kB hall hok⟩,by omega⟩ ?_
      exact gw7 Y0
     ·have j1:((i:Int) > 0) = True:=eq_true (by omega)
      have hw1:w64 ((i:Int) - 1) = ((i - 1:Nat):Int):=by rw [qG (by omega)];omega
      have i3:((0:Int) ≤ ((i - 1:Nat):Int)) = True:=eq_true (by omega)
      have i4:(((i - 1:Nat):Int) < (f.length:Int)) = True:=eq_true (by omega)
      obtain ⟨s,hs⟩:∃ s,s = f[i - 1]:=⟨_,rfl⟩
      have hgs:(f.map eL)[i - 1]? = some [.sl 1 (s.map eI)]:=by rw [qN (by omega),hs];rfl
      have hgds:f.getD (i - 1) [] = s:=by rw [yV (by omega),hs]
      by_cases hk:cmpT s t > 0
      ·have hok:okT f i = false:=by unfold okT;rw [hgd,hgds,hc,decide_eq_false h0,decide_eq_false (by omega)];rfl
       have hB:forB f = false:=by unfold forB;rw [xT h hok,Bool.and_false]
       have k1:(cmpT s t > 0) = True:=eq_true hk
       rw [hB]
       refine gw8 (Y11 i1 i2 i3 i4 hg hgs hw hw1 hc j1 k1) ?_
       refine qW.ret ?_
       refine gw9 Y0 ?_
       exact gw2
      ·have hok:okT f i = true:=by unfold okT;rw [hgd,hgds,hc,decide_eq_true (show cmpT s t ≤ 0 by omega),Bool.or_true];rfl
       have k1:(cmpT s t > 0) = False:=eq_false hk
       refine gw8 (Y11 i1 i2 i3 i4 hg hgs hw hw1 hc j1 k1) ?_
       refine qW.on (i + 1) ⟨⟨h,kB hall hok⟩,by omega⟩ ?_
       exact gw7 Y0
    ·have hc:canT t = false:=by simpa using hc
     have hok:okT f i = false:=by unfold okT;rw [hgd,hc,Bool.false_and]
     have hB:forB f = false:=by unfold forB;rw [xT h hok,Bool.and_false]
     rw [hB]
     refine gw8 (Y5 i1 i2 hg hw hc) ?_
     refine qW.ret ?_
     refine gw9 Y0 ?_
     exact gw2
   ·have i1:((i:Int) < (f.length:Int)) = False:=eq_false (by omega)
    obtain rfl:i = f.length:=by omega
    refine gw9 i1 ?_
    refine qW.out () hall ?_
    exact gw7 Y0
  ·rintro _ hall
   have hB:forB f = true:=by unfold forB;rw [hall,decide_eq_true h8];rfl
   rw [hB]
   refine gw9 Y0 ?_
   exact gw2
 ·have i8:((qX f:Int) > 8) = True:=eq_true (by omega)
  have hB:forB f = false:=by unfold forB;rw [decide_eq_false h8,Bool.false_and]
  rw [hB]
  refine gw6 (Yp hn i8) ?_
  exact gw2
end
section
theorem a_l03Forest (f:List (List Int)) (hsz:qX f ≤ 1048576) (hln:f.length ≤ 1048576):AFn Tryz.prog 65 [eLL f] (· = [.val (.bool (forB f))]):=by
 have hn:jV f = qX f:=xE f (by omega)
 refine AFn.of_runs (qQ 35) Tryz.func65 rfl rfl rfl gz ?_
 have hres:Tryz.f65.results.toList = [.tmp 2]:=rfl
 have hrts:Tryz.f65.resultTypes.toList = [4]:=rfl
 simp only [qV,qU,eL,eI,eLL,eB,Nat.zero_add,Nat.reduceAdd]
 intro M
 refine qJ.of ?_
 refine gw10 Y0 ?_
 refine qJ.loop (β:=Nat) (γ:=Unit) (fun i => ⟨[(0,.c (.val (.sl 1 (f.map eL)))),(3,.c (.val (.int i)))],[]⟩) (fun i => i ≤ f.length∧(List.range i).all (okT f) = true) (fun i => f.length - i)
  (fun _ => ⟨[(0,.c (.val (.sl 1 (f.map eL))))],[]⟩) (fun _ => (List.range f.length).all (okT f) = true) 0 ⟨Nat.zero_le _,rfl⟩ ?_ ?_ ?_
 ·exact gw7 Y0
 ·rintro i ⟨hi,hall⟩
  have hw:=jW (n:=i) (by omega)
  by_cases h:i < f.length
  ·have i1:((i:Int) < (f.length:Int)) = True:=eq_true (by omega)
   have i2:((0:Int) ≤ (i:Int)) = True:=eq_true (by omega)
   obtain ⟨t,ht⟩:∃ t,t = f[i]:=⟨_,rfl⟩
   have hg:(f.map eL)[i]? = some [.sl 1 (t.map eI)]:=by rw [qN h,ht];rfl
   have hgd:f.getD i [] = t:=by rw [yV h,ht]
   have htl:(t.length ≤ 1048576) = True:=eq_true (Nat.le_trans (by rw [ht];exact xV (List.getElem_mem h)) hsz)
   by_cases hc:canT t = true
   ·by_cases h0:i = 0
    ·have j1:((i:Int) > 0) = False:=eq_false (by omega)
     have hok:okT f i = true:=by unfold okT;rw [hgd,hc,h0];rfl
     refine gw11 (Y7 i1 i2 hg hw hc j1 htl) ?_
     refine qW.on (i + 1) ⟨⟨h,kB hall hok⟩,by omega⟩ ?_
     exact gw7 Y0
    ·have j1:((i:Int) > 0) = True:=eq_true (by omega)
     have hw1:w64 ((i:Int) - 1) = ((i - 1:Nat):Int):=by rw [qG (by omega)];omega
     have i3:((0:Int) ≤ ((i - 1:Nat):Int)) = True:=eq_true (by omega)
     have i4:(((i - 1:Nat):Int) < (f.length:Int)) = True:=eq_true (by omega)
     obtain ⟨s,hs⟩:∃ s,s = f[i - 1]:=⟨_,rfl⟩
     have hgs:(f.map eL)[i - 1]? = some [.sl 1 (s.map eI)]:=by rw [qN (by omega),hs];rfl
     have hgds:f.getD (i - 1) [] = s:=by rw [yV (by omega),hs]
     have han:=xK.anti t s
     by_cases hk:cmpT t s < 0
     ·have hok:okT f i = false:=by unfold okT;rw [hgd,hgds,hc,decide_eq_false h0,decide_eq_false (by omega)];rfl
      have hB:forB f = false:=by unfold forB;rw [xT h hok,Bool.and_false]
      have k1:decide (cmpT t s < 0) = true:=decide_eq_true hk
      rw [hB]
      refine gw11 (Y12 i1 i2 i3 i4 hg hgs hw hw1 hc j1 k1 htl) ?_
      refine qW.ret ?_
      refine gw12 ?_
      exact gw2
     ·have hok:okT f i = true:=by unfold okT;rw [hgd,hgds,hc,decide_eq_true (show cmpT s t ≤ 0 by omega),Bool.or_true];rfl
      have k1:decide (cmpT t s < 0) = false:=decide_eq_false hk
      refine gw11 (Y12 i1 i2 i3 i4 hg hgs hw hw1 hc j1 k1 htl) ?_
      refine qW.on (i + 1) ⟨⟨h,kB hall hok⟩,by omega⟩ ?_
      exact gw7 Y0
   ·have hc:canT t = false:=by simpa using hc
    have hok:okT f i = false:=by unfold okT;rw [hgd,hc,Bool.false_and]
    have hB:forB f = false:=by unfold forB;rw [xT h hok,Bool.and_false]
    rw [hB]
    refine gw11 (Y6 i1 i2 hg hw hc htl) ?_
    refine qW.ret ?_
    refine gw12 ?_
    exact gw2
  ·have i1:((i:Int) < (f.length:Int)) = False:=eq_false (by omega)
   obtain rfl:i = f.length:=by omega
   refine gw13 i1 ?_
   refine qW.out () hall ?_
   exact gw7 Y0
 ·rintro _ hall
  have hB:forB f = decide ((qX f:Int) ≤ 8):=by
   unfold forB;rw [hall,Bool.and_true]
   exact decide_eq_decide.2 (by omega)
  rw [hB]
  refine gw10 hn ?_
  exact gw2
theorem sgn_neg {n:Int} (h:n < 0):sgn n = -1:=by unfold sgn;rw [if_pos h]
theorem sgn_pos {n:Int} (h:0 < n):sgn n = 1:=by unfold sgn;rw [if_neg (by omega),if_neg (by omega)]
theorem sgn_zero:sgn 0 = 0:=rfl
theorem a_l05Compare (f g:List (List Int)) (hf:f.length ≤ 1000000000) (hg:g.length ≤ 1000000000):AFn Tryz.prog 195 [eLL f,eLL g] (· = [.val (.int (sgn (cmpN f g)))]):=by
 rw [cmpN_eq]
 refine AFn.of_runs (qQ 42) Tryz.func195 rfl rfl rfl gz ?_
 have hres:Tryz.f195.results.toList = [.tmp 4]:=rfl
 have hrts:Tryz.f195.resultTypes.toList = [2]:=rfl
 simp only [qV,qU,eL,eI,eLL,eB,Nat.zero_add,Nat.reduceAdd]
 intro M
 refine qJ.of ?_
 by_cases hl:f.length = g.length
 ·have hb:((f.length:Int) != (g.length:Int)) = false:=by simp [hl]
  rw [if_pos (by rw [hl])]
  refine gw14 hb ?_
  refine qJ.loop (β:=Nat) (γ:=Unit) (fun i => ⟨[(0,.c (.val (.sl 1 (f.map eL)))),(1,.c (.val (.sl 1 (g.map eL)))),(5,.c (.val (.int i)))],[]⟩) (fun i => i ≤ f.length∧lexC cmpT f g = lexC cmpT (f.drop i) (g.drop i)) (fun i => f.length - i)
   (fun _ => ⟨[],[]⟩) (fun _ => lexC cmpT f g = 0) 0 ⟨Nat.zero_le _,rfl⟩ ?_ ?_ ?_
  ·exact gw7 Y0
  ·rintro i ⟨hi,hx⟩
   have hw:=jW (n:=i) (by omega)
   by_cases h:i < f.length
   ·have h2:i < g.length:=by omega
    have i1:((i:Int) < (f.length:Int)) = True:=eq_true (by omega)
    have i1':((i:Int) < (g.length:Int)) = True:=eq_true (by omega)
    have i2:((0:Int) ≤ (i:Int)) = True:=eq_true (by omega)
    have hs:=lexC_step (c:=cmpT) h h2
    obtain ⟨t,ht⟩:∃ t,t = f[i]:=⟨_,rfl⟩
    obtain ⟨s,hsd⟩:∃ s,s = g[i]:=⟨_,rfl⟩
    rw [← ht,← hsd] at hs
    have hgt:(f.map eL)[i]? = some [.sl 1 (t.map eI)]:=by rw [qN h,ht];rfl
    have hgs:(g.map eL)[i]? = some [.sl 1 (s.map eI)]:=by rw [qN h2,hsd];rfl
    have han:=xK.anti s t
    by_cases c1:cmpT t s < 0
    ·have d1:decide (cmpT t s < 0) = true:=decide_eq_true c1
     rw [hx,hs,if_neg (by omega),sgn_neg c1]
     refine gw15 (Y7 i1 i1' i2 hgt hgs hw d1) ?_
     refine qW.ret ?_
     refine gw16 ?_
     exact gw2
    ·have d1:decide (cmpT t s < 0) = false:=decide_eq_false c1
     by_cases c2:cmpT s t < 0
     ·have d2:decide (cmpT s t < 0) = true:=decide_eq_true c2
      rw [hx,hs,if_neg (by omega),sgn_pos (by omega)]
      refine gw15 (Y8 i1 i1' i2 hgt hgs hw d1 d2) ?_
      refine qW.ret ?_
      refine gw16 ?_
      exact gw2
     ·have d2:decide (cmpT s t < 0) = false:=decide_eq_false c2
      rw [if_pos (by omega)] at hs
      refine gw15 (Y8 i1 i1' i2 hgt hgs hw d1 d2) ?_
      refine qW.on (i + 1) ⟨⟨h,by rw [hx,hs]⟩,by omega⟩ ?_
      exact gw7 Y0
   ·have i1:((i:Int) < (f.length:Int)) = False:=eq_false (by omega)
    rw [lexC_end0 h (by omega)] at hx
    refine gw17 i1 ?_
    refine qW.out () hx ?_
    exact gw7 Y0
  ·rintro _ h0
   rw [h0,sgn_zero]
   refine gw16 ?_
   exact gw2
 ·have hb:((f.length:Int) != (g.length:Int)) = true:=by simp;omega
  rw [if_neg (by omega)]
  by_cases h2:f.length < g.length
  ·have i1:((f.length:Int) < (g.length:Int)) = True:=eq_true (by omega)
   rw [sgn_neg (by omega)]
   refine gw14 (Yp hb i1) ?_
   exact gw2
  ·have i1:((f.length:Int) < (g.length:Int)) = False:=eq_false (by omega)
   rw [sgn_pos (by omega)]
   refine gw14 (Yp hb i1) ?_
   exact gw2
theorem a_l06Order (f g:List (List Int)) (hf:qX f ≤ 1000000000) (hg:qX g ≤ 1000000000) (hf2:f.length ≤ 1000000000) (hg2:g.length ≤ 1000000000):AFn Tryz.prog 136 [eLL f,eLL g] (· = [.val (.int (sgn (cmpF f g)))]):=by
 have hn1:jV f = qX f:=xE f (by omega)
 have hn2:jV g = qX g:=xE g (by omega)
 have hc:=a_l05Compare f g hf2 hg2
 simp only [eLL] at hc
 rw [cmpF_N]
 refine AFn.of_runs (qQ 20) Tryz.func136 rfl rfl rfl gz ?_
 have hres:Tryz.f136.results.toList = [.tmp 4]:=rfl
 have hrts:Tryz.f136.resultTypes.toList = [2]:=rfl
 simp only [qV,qU,eL,eI,eLL,eB,Nat.zero_add,Nat.reduceAdd]
 intro M
 refine qJ.of ?_
 by_cases hl:qX f = qX g
 ·have hb:((qX f:Int) != (qX g:Int)) = false:=by simp [hl]
  rw [if_pos (by rw [hl])]
  refine gw18 (Y3 hb hn1 hn2) ?_
  exact gw2
 ·have hb:((qX f:Int) != (qX g:Int)) = true:=by simp;omega
  rw [if_neg (by omega)]
  by_cases h2:qX f < qX g
  ·have i1:((qX f:Int) < (qX g:Int)) = True:=eq_true (by omega)
   rw [sgn_neg (by omega)]
   refine gw18 (Y4 hb hn1 hn2 i1) ?_
   exact gw2
  ·have i1:((qX f:Int) < (qX g:Int)) = False:=eq_false (by omega)
   rw [sgn_pos (by omega)]
   refine gw18 (Y4 hb hn1 hn2 i1) ?_
   exact gw2
theorem yX0 (f g:List (List Int)) (hf:qX f ≤ 1000000000) (hg:qX g ≤ 1000000000):AFn Tryz.prog 87 [eLL f,eLL g] (· = [.val (.int (cmpF f g))]):=by
 refine ⟨enters_of Tryz.func87 rfl rfl,fun A w vs hA ⟨v1,_,e1,h1,v2,_,e2,h2,e3⟩ => ?_⟩
 subst e3;subst e2;subst e1
 have r1:=Rd.of (rdLL h1)
 have r2:=Rd.of (rdLL h2)
 obtain ⟨oa,c1,k1,m1,m2⟩:=r1.val
 obtain ⟨ob,c2,k2,m3,m4⟩:=r2.val
 refine (jI0 v1 v2 f g w r1 r2 (by omega) (by omega)).mono ?_
 rintro e w' ⟨rfl,rfl⟩
 have hle:∀ {f:List (List Int)},qX f ≤ 1000000000→∀ t ∈ f,t.length ≤ maxLen:=fun h t ht => Nat.le_trans (xV ht) (Nat.le_trans h (by decide))
 exact ⟨_,_,rfl,rfl,Below.refl _ _,[_],[],[],rfl,List.nodup_nil,by simp,_,[],[],[],[],[],rfl,rfl,rfl,rfl,⟨jQ.2 ⟨rfl,cmpF_in64 (by omega) (by omega) (by omega) (by omega) (hle hf) (hle hg)⟩,rfl,rfl⟩,rfl,rfl,rfl⟩
end
section
section
variable {β:Type} {S:Rep β} {w:World}
end
abbrev yM:Rep (Int × List (List Int)):=RP RI (RS (RS RI))
end
section
section
variable {β:Type} {S:Rep β} {w:World}
end
end
end Go.Proofs.YtedgfkpfhonlpaaGreat

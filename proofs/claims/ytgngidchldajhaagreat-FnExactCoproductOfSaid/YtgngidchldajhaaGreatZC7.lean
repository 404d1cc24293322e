/- Lemmas (7). -/
import Derived.BigQuiet
import Derived.Test.YtgngidchldajhaaGreatZC0
import Derived.Test.YtgngidchldajhaaGreatZC1
import Derived.Test.YtgngidchldajhaaGreatZC5
import Derived.Test.YtgngidchldajhaaGreatZC6
set_option linter.unusedSimpArgs false
set_option linter.unusedVariables false
namespace Go.Proofs.YtgngidchldajhaaGreat
open Go.RowKit
theorem a_l03Before (xs ys:List Int):AFn Tryz.prog 167 [eL xs,eL ys] (· = [.val (.bool (decide (cmpT xs ys < 0)))]) :=
 AFn.of_q (v:=.bool _) (enters_of Tryz.func167 rfl rfl) (fun _ _ => rdV_bool.2 rfl) (fun w A vs ⟨v1,_,e1,h1,v2,_,e2,h2,e3⟩ => by subst e3;subst e2;subst e1;exact c_spec_l03Before v1 v2 xs ys w (Rd.of (rd1 h1)) (Rd.of (rd1 h2)))
theorem a_l01Same (xs ys:List Int):AFn Tryz.prog 223 [eL xs,eL ys] (· = [.val (.bool (decide (xs = ys)))]) :=
 AFn.of_q (v:=.bool _) (enters_of Tryz.func223 rfl rfl) (fun _ _ => rdV_bool.2 rfl) (fun w A vs ⟨v1,_,e1,h1,v2,_,e2,h2,e3⟩ => by subst e3;subst e2;subst e1;exact c_spec_l01Same v1 v2 xs ys w (Rd.of (rd1 h1)) (Rd.of (rd1 h2)))
theorem a_l01Own (xs:List Int) (hsz:xs.length ≤ 1000000000):AFn Tryz.prog 145 [eL xs] (· = [.own 1 (xs.map eI) true]) :=
 AFn.of_o encI (enters_of Tryz.func145 rfl rfl) (fun w A vs ⟨v1,_,e1,h1,e2⟩ => by subst e2;subst e1;exact c_spec_l01Own v1 xs w (Rd.of (rd1 h1)) hsz)
theorem cmpT_in64 {xs ys:List Int} (h1:xs.length ≤ maxLen) (h2:ys.length ≤ maxLen):In64 (cmpT xs ys):=by
 unfold maxLen at h1 h2
 unfold cmpT In64
 have:=cmpL_range ys xs
 split <;> omega
theorem a_compareTrees (xs ys:List Int):AFn Tryz.prog 150 [eL xs,eL ys] (· = [.val (.int (cmpT xs ys))]):=by
 refine ⟨enters_of Tryz.func150 rfl rfl,fun A w vs hA ⟨v1,_,e1,h1,v2,_,e2,h2,e3⟩ => ?_⟩
 subst e3;subst e2;subst e1
 obtain ⟨oa,c1,k1,m1,m2⟩:=(Rd.of (rd1 h1)).val
 obtain ⟨ob,c2,k2,m3,m4⟩:=(Rd.of (rd1 h2)).val
 refine (c_impl_compareTrees v1 v2 xs ys w (Rd.of (rd1 h1)) (Rd.of (rd1 h2))).mono ?_
 rintro e w' ⟨rfl,rfl⟩
 exact ⟨_,_,rfl,rfl,Below.refl _ _,[_],[],[],rfl,List.nodup_nil,by simp,_,[],[],[],[],[],rfl,rfl,rfl,rfl,⟨rdV_int.2 ⟨rfl,cmpT_in64 (by omega) (by omega)⟩,rfl,rfl⟩,rfl,rfl,rfl⟩
theorem a_impl_IsLevels (t:List Int):AFn Tryz.prog 71 [eL t] (· = [.val (.bool (lev8 t))]):=afn_L_s (v:=.bool _) (enters_of Tryz.func71 rfl rfl) (fun _ _ => rdV_bool.2 rfl) (fun u w h => c_impl_IsLevels u t w h)
theorem a_spec_l03Is (t:List Int) (hsz:t.length ≤ 1048576):AFn Tryz.prog 73 [eL t] (· = [.val (.bool (lev8 t))]):=afn_L_q (v:=.bool _) (enters_of Tryz.func73 rfl rfl) (fun _ _ => rdV_bool.2 rfl) (fun u w h => c_spec_l03Is u t w h (by omega))
theorem a_slicesEqual (xs ys:List Int):AFn Tryz.prog 87 [eL xs,eL ys] (· = [.val (.bool (decide (xs = ys)))]):=afn_LL_q (v:=.bool _) (enters_of Tryz.func87 rfl rfl) (fun _ _ => rdV_bool.2 rfl) (fun u1 u2 w h1 h2 => c_slicesEqual u1 u2 xs ys w h1 h2)
theorem a_spec_l01In (x y z:Int):AFn Tryz.prog 143 [eI x,eI y,eI z] (· = [.val (.bool (inR x y z))]):=afn_III_s (v:=.bool _) (enters_of Tryz.func143 rfl rfl) (fun _ _ => rdV_bool.2 rfl) (fun w => c_spec_l01In x y z w)
theorem a_l03Canon (t:List Int) (h:LevP t) (hl:t.length ≤ 8):AFn Tryz.prog 75 [eL t] (· = [.own 1 ((canon t).map eI) true]) :=
 afn_L_o (enters_of Tryz.func75 rfl rfl) (fun u w h' => c_spec_l03Canon 8 u t w h' h hl (by omega))
theorem a_canonical (t:List Int) (h:LevP t) (hl:t.length ≤ 8):AFn Tryz.prog 79 [eL t] (· = [.own 1 ((canon t).map eI) true]) :=
 afn_L_o (enters_of Tryz.func79 rfl rfl) (fun u w h' => c_impl_canonical 8 u t w h' h hl (by omega))
theorem nodesB_in64 (f:List (List Int)):In64 (nodesB f):=by
 have:∀ (bs:List (List Int)) (a:Int),In64 a→In64 (bs.foldl (fun a b => wrap64 (a + (b.length:Int))) a):=by
  intro bs
  induction bs with
  | nil => intro a h;exact h
  | cons b bs ih => intro a _;exact ih _ (by show In64 (wrap64 (a + (b.length:Int)));unfold In64 wrap64;omega)
 exact this f 0 (by unfold In64;omega)
theorem a_nodesIn (f:List (List Int)):AFn Tryz.prog 124 [eLL f] (· = [.val (.int (nodesB f))]) :=
 afn_LLL_s (enters_of Tryz.func124 rfl rfl) (fun _ _ => rdV_int.2 ⟨rfl,nodesB_in64 f⟩) (fun u w h => c_impl_nodesIn u f w h)
theorem a_l03Nodes (f:List (List Int)):AFn Tryz.prog 168 [eLL f] (· = [.val (.int (nodesB f))]) :=
 afn_LLL_s (enters_of Tryz.func168 rfl rfl) (fun _ _ => rdV_int.2 ⟨rfl,nodesB_in64 f⟩) (fun u w h => c_spec_l03Nodes u f w h)
end Go.Proofs.YtgngidchldajhaaGreat
namespace Go.Proofs.YtgngidchldajhaaGreat
open Go.RowKit
theorem telT_none (s:St) (u:List Nat):telT s u Option.none = Option.none:=rfl
theorem Zg:type_of% (And.intro (And.intro (And.intro (And.intro (And.intro (And.intro (And.intro @arun.eq_1 (And.intro @arun.eq_2 @astep.eq_def)) (And.intro (And.intro @anew.eq_def @amut.eq_def) (And.intro @isMut.eq_def @awanted.eq_def))) (And.intro (And.intro @avG.eq_def (And.intro @Bool.true_beq @Bool.false_beq)) (And.intro (And.intro @beq_true @beq_false) (And.intro @dstOK.eq_def @cfg.eq_def)))) (And.intro (And.intro (And.intro @opv.eq_def (And.intro @noJunk.eq_def @constAV.eq_def)) (And.intro (And.intro @look_eq @lookB.eq_1) (And.intro @lookB.eq_2 @insR_eq))) (And.intro (And.intro @insB.eq_1 (And.intro @insB.eq_2 @cond_true.{1})) (And.intro (And.intro @cond_false.{1} @insAll.eq_def) (And.intro @List.foldr_cons.{0,0} @List.foldr_nil.{0,0}))))) (And.intro (And.intro (And.intro (And.intro @Option.bind_some.{0,0} (And.intro @Option.map_some.{0,0} @Option.bind_none.{0,0})) (And.intro (And.intro @Option.map_none.{0,0} @Option.getD_some.{0}) (And.intro @Option.getD_none.{0} @Bool.false_eq_true))) (And.intro (And.intro @decide_true (And.intro @decide_false @slT.eq_def)) (And.intro (And.intro @tyT.eq_def (And.intro @tyT2.eq_def (And.intro @tyT3.eq_def @slT2.eq_def))) (And.intro @fsT.eq_def @avD.eq_def)))) (And.intro (And.intro (And.intro @avI.eq_def (And.intro @avB.eq_def @dval.eq_def)) (And.intro (And.intro @un_int @un_bool) (And.intro @un_raw @un_sl))) (And.intro (And.intro (And.intro @un_tag @avun_val) (And.intro @avun_nil @avun_own)) (And.intro (And.intro @avun_view @abin.eq_def) (And.intro @aun.eq_def @alen.eq_def)))))) (And.intro (And.intro (And.intro (And.intro (And.intro @aindex.eq_def (And.intro @aslice.eq_def @afield.eq_def)) (And.intro (And.intro @acells.eq_def @aload.eq_def) (And.intro @avCells.eq_def @zAC.eq_def))) (And.intro (And.intro @afill.eq_1 (And.intro @afill.eq_2 @aparts.eq_1)) (And.intro (And.intro @aparts.eq_2 @mkObj.eq_def) (And.intro @rowsD.eq_1 @rowsD.eq_2)))) (And.intro (And.intro (And.intro @cellsD.eq_1 (And.intro @cellsD.eq_2 @cellsD.eq_3)) (And.intro (And.intro @cellD_vsl @cellD_vtag) (And.intro @cellD_vint @cellD_vbool))) (And.intro (And.intro @cellD_vraw (And.intro @cellD_nilsl @cellD_own)) (And.intro (And.intro @cellD_view @cellD_junk) (And.intro @fresh.eq_def @abase.eq_def))))) (And.intro (And.intro (And.intro (And.intro @aelems.eq_def (And.intro @absorbKey.eq_def @absorbs.eq_1)) (And.intro (And.intro @absorbs.eq_2 @absorbs.eq_3) (And.intro @absorb.eq_def @absorbRows.eq_1))) (And.intro (And.intro @absorbRows.eq_2 (And.intro @drop_eq @dropB.eq_1)) (And.intro (And.intro @dropB.eq_2 @killR.eq_def) (And.intro @AC.kill.eq_def @AV.kill.eq_def)))) (And.intro (And.intro (And.intro @AV.refs.eq_def (And.intro @AC.refs.eq_def @Obj.refs.eq_def)) (And.intro (And.intro @List.map_cons.{0,0} @List.map_nil.{0,0}) (And.intro @List.all_cons.{0} @List.all_nil.{0}))) (And.intro (And.intro (And.intro @List.flatMap_cons.{0,0} @List.flatMap_nil.{0,0}) (And.intro @List.contains_nil.{0} @List.contains_cons.{0})) (And.intro (And.intro @List.append_nil.{0} @List.nil_append.{0}) (And.intro @List.cons_append.{0} @Bool.and_true))))))) (And.intro (And.intro (And.intro (And.intro (And.intro (And.intro @Bool.true_and (And.intro @Bool.not_true @Bool.not_false)) (And.intro (And.intro @Bool.and_self @Option.isNone_none.{0}) (And.intro @Option.isNone_some.{0} @List.length_cons.{0}))) (And.intro (And.intro @List.length_nil.{0} (And.intro @List.toList_toArray.{0} @List.getElem?_toArray.{0})) (And.intro (And.intro @splice.eq_def @List.take_succ_cons.{0}) (And.intro @List.drop_succ_cons.{0} @List.take_zero.{0})))) (And.intro (And.intro (And.intro @List.drop_zero.{0} (And.intro @List.take_nil.{0} @List.drop_nil.{0})) (And.intro (And.intro @Nat.zero_add @Nat.add_zero) (And.intro @and_self @true_and))) (And.intro (And.intro @and_true (And.intro @List.getElem?_cons_zero.{0} @List.getElem?_cons_succ.{0})) (And.intro (And.intro @List.getElem?_nil.{0} @beq_self_eq_true.{0}) (And.intro @Bool.or_false @Bool.false_or))))) (And.intro (And.intro (And.intro (And.intro @Bool.or_true (And.intro @Bool.true_or @putR.eq_def)) (And.intro (And.intro @bne_self_eq_false.{0} @Bool.and_false) (And.intro @Bool.false_and @id_eq.{1}))) (And.intro (And.intro @Obj.k.eq_def (And.intro @Obj.len.eq_def @Obj.deep.eq_def)) (And.intro (And.intro @List.getElem?_cons.{0} @List.set_cons_zero.{0}) (And.intro @List.set_cons_succ.{0} @List.length_set.{0})))) (And.intro (And.intro (And.intro @aopsT.eq_1 (And.intro @aopsT.eq_2 @astepT.eq_def)) (And.intro (And.intro @isCall.eq_def @acallT.eq_def) (And.intro @arg1.eq_def @argV_raw))) (And.intro (And.intro (And.intro @argV_nil @argV_own) (And.intro @argV_view @argV_agg)) (And.intro (And.intro @argV_sl @argV_int) (And.intro @argV_bool @argV_tag)))))) (And.intro (And.intro (And.intro (And.intro (And.intro (And.intro (And.intro @isOwn.eq_def @isPin.eq_def) (And.intro (And.intro @callP.eq_def @pinE_pin) (And.intro @putP_some @Tab.pin.eq_def))) (And.intro @callE.eq_def @ownKey.eq_def)) (And.intro (And.intro @rowE_row @putE_some) (And.intro @putE_none @Tab.own.eq_def))) (And.intro (And.intro @Tab.at'.eq_def (And.intro @atArgs_eq @Option.isSome_some.{0})) (And.intro (And.intro @Option.isSome_none.{0} @gotT_some) (And.intro @gotF_some @gotF_none)))) (And.intro (And.intro (And.intro @callRefs_call (And.intro @St.frzs.eq_1 @St.frzs.eq_2)) (And.intro (And.intro @St.frz.eq_def @AC.frz.eq_def) (And.intro @AV.frz.eq_def @Obj.frz.eq_def))) (And.intro (And.intro (And.intro @frzR.eq_1 @frzR.eq_2) (And.intro @frzH.eq_1 @frzH.eq_2)) (And.intro (And.intro @telT_some @List.size_toArray.{0}) (And.intro @aargs.eq_1 @aargs.eq_2))))) (And.intro (And.intro (And.intro (And.intro @aargs.eq_3 (And.intro @argAV.eq_def @argCells.eq_1)) (And.intro (And.intro @argCells.eq_2 @argCells.eq_3) (And.intro @argCell.eq_def @fnId.eq_def))) (And.intro (And.intro @opRefs_nil (And.intro @opRefs_cons @St.got.eq_def)) (And.intro (And.intro @resACs.eq_1 @resACs.eq_2) (And.intro @resAC.eq_def @outAV.eq_def)))) (And.intro (And.intro (And.intro @Res.scalar.eq_def (And.intro @isSl.eq_def @Tab.add.eq_def)) (And.intro (And.intro @Tab.none.eq_def @tab1.eq_def) (And.intro @tab2.eq_def @tab3.eq_def))) (And.intro (And.intro (And.intro @codL_d @codLL_d) (And.intro @codI_d @codB_d)) (And.intro (And.intro @codCts_d @List.isEmpty_nil.{0}) (And.intro @List.isEmpty_cons.{0} @List.append_eq.{0})))))))):=(And.intro (And.intro (And.intro (And.intro (And.intro (And.intro (And.intro @arun.eq_1 (And.intro @arun.eq_2 @astep.eq_def)) (And.intro (And.intro @anew.eq_def @amut.eq_def) (And.intro @isMut.eq_def @awanted.eq_def))) (And.intro (And.intro @avG.eq_def (And.intro @Bool.true_beq @Bool.false_beq)) (And.intro (And.intro @beq_true @beq_false) (And.intro @dstOK.eq_def @cfg.eq_def)))) (And.intro (And.intro (And.intro @opv.eq_def (And.intro @noJunk.eq_def @constAV.eq_def)) (And.intro (And.intro @look_eq @lookB.eq_1) (And.intro @lookB.eq_2 @insR_eq))) (And.intro (And.intro @insB.eq_1 (And.intro @insB.eq_2 @cond_true.{1})) (And.intro (And.intro @cond_false.{1} @insAll.eq_def) (And.intro @List.foldr_cons.{0,0} @List.foldr_nil.{0,0}))))) (And.intro (And.intro (And.intro (And.intro @Option.bind_some.{0,0} (And.intro @Option.map_some.{0,0} @Option.bind_none.{0,0})) (And.intro (And.intro @Option.map_none.{0,0} @Option.getD_some.{0}) (And.intro @Option.getD_none.{0} @Bool.false_eq_true))) (And.intro (And.intro @decide_true (And.intro @decide_false @slT.eq_def)) (And.intro (And.intro @tyT.eq_def (And.intro @tyT2.eq_def (And.intro @tyT3.eq_def @slT2.eq_def))) (And.intro @fsT.eq_def @avD.eq_def)))) (And.intro (And.intro (And.intro @avI.eq_def (And.intro @avB.eq_def @dval.eq_def)) (And.intro (And.intro @un_int @un_bool) (And.intro @un_raw @un_sl))) (And.intro (And.intro (And.intro @un_tag @avun_val) (And.intro @avun_nil @avun_own)) (And.intro (And.intro @avun_view @abin.eq_def) (And.intro @aun.eq_def @alen.eq_def)))))) (And.intro (And.intro (And.intro (And.intro (And.intro @aindex.eq_def (And.intro @aslice.eq_def @afield.eq_def)) (And.intro (And.intro @acells.eq_def @aload.eq_def) (And.intro @avCells.eq_def @zAC.eq_def))) (And.intro (And.intro @afill.eq_1 (And.intro @afill.eq_2 @aparts.eq_1)) (And.intro (And.intro @aparts.eq_2 @mkObj.eq_def) (And.intro @rowsD.eq_1 @rowsD.eq_2)))) (And.intro (And.intro (And.intro @cellsD.eq_1 (And.intro @cellsD.eq_2 @cellsD.eq_3)) (And.intro (And.intro @cellD_vsl @cellD_vtag) (And.intro @cellD_vint @cellD_vbool))) (And.intro (And.intro @cellD_vraw (And.intro @cellD_nilsl @cellD_own)) (And.intro (And.intro @cellD_view @cellD_junk) (And.intro @fresh.eq_def @abase.eq_def))))) (And.intro (And.intro (And.intro (And.intro @aelems.eq_def (And.intro @absorbKey.eq_def @absorbs.eq_1)) (And.intro (And.intro @absorbs.eq_2 @absorbs.eq_3) (And.intro @absorb.eq_def @absorbRows.eq_1))) (And.intro (And.intro @absorbRows.eq_2 (And.intro @drop_eq @dropB.eq_1)) (And.intro (And.intro @dropB.eq_2 @killR.eq_def) (And.intro @AC.kill.eq_def @AV.kill.eq_def)))) (And.intro (And.intro (And.intro @AV.refs.eq_def (And.intro @AC.refs.eq_def @Obj.refs.eq_def)) (And.intro (And.intro @List.map_cons.{0,0} @List.map_nil.{0,0}) (And.intro @List.all_cons.{0} @List.all_nil.{0}))) (And.intro (And.intro (And.intro @List.flatMap_cons.{0,0} @List.flatMap_nil.{0,0}) (And.intro @List.contains_nil.{0} @List.contains_cons.{0})) (And.intro (And.intro @List.append_nil.{0} @List.nil_append.{0}) (And.intro @List.cons_append.{0} @Bool.and_true))))))) (And.intro (And.intro (And.intro (And.intro (And.intro (And.intro @Bool.true_and (And.intro @Bool.not_true @Bool.not_false)) (And.intro (And.intro @Bool.and_self @Option.isNone_none.{0}) (And.intro @Option.isNone_some.{0} @List.length_cons.{0}))) (And.intro (And.intro @List.length_nil.{0} (And.intro @List.toList_toArray.{0} @List.getElem?_toArray.{0})) (And.intro (And.intro @splice.eq_def @List.take_succ_cons.{0}) (And.intro @List.drop_succ_cons.{0} @List.take_zero.{0})))) (And.intro (And.intro (And.intro @List.drop_zero.{0} (And.intro @List.take_nil.{0} @List.drop_nil.{0})) (And.intro (And.intro @Nat.zero_add @Nat.add_zero) (And.intro @and_self @true_and))) (And.intro (And.intro @and_true (And.intro @List.getElem?_cons_zero.{0} @List.getElem?_cons_succ.{0})) (And.intro (And.intro @List.getElem?_nil.{0} @beq_self_eq_true.{0}) (And.intro @Bool.or_false @Bool.false_or))))) (And.intro (And.intro (And.intro (And.intro @Bool.or_true (And.intro @Bool.true_or @putR.eq_def)) (And.intro (And.intro @bne_self_eq_false.{0} @Bool.and_false) (And.intro @Bool.false_and @id_eq.{1}))) (And.intro (And.intro @Obj.k.eq_def (And.intro @Obj.len.eq_def @Obj.deep.eq_def)) (And.intro (And.intro @List.getElem?_cons.{0} @List.set_cons_zero.{0}) (And.intro @List.set_cons_succ.{0} @List.length_set.{0})))) (And.intro (And.intro (And.intro @aopsT.eq_1 (And.intro @aopsT.eq_2 @astepT.eq_def)) (And.intro (And.intro @isCall.eq_def @acallT.eq_def) (And.intro @arg1.eq_def @argV_raw))) (And.intro (And.intro (And.intro @argV_nil @argV_own) (And.intro @argV_view @argV_agg)) (And.intro (And.intro @argV_sl @argV_int) (And.intro @argV_bool @argV_tag)))))) (And.intro (And.intro (And.intro (And.intro (And.intro (And.intro (And.intro @isOwn.eq_def @isPin.eq_def) (And.intro (And.intro @callP.eq_def @pinE_pin) (And.intro @putP_some @Tab.pin.eq_def))) (And.intro @callE.eq_def @ownKey.eq_def)) (And.intro (And.intro @rowE_row @putE_some) (And.intro @putE_none @Tab.own.eq_def))) (And.intro (And.intro @Tab.at'.eq_def (And.intro @atArgs_eq @Option.isSome_some.{0})) (And.intro (And.intro @Option.isSome_none.{0} @gotT_some) (And.intro @gotF_some @gotF_none)))) (And.intro (And.intro (And.intro @callRefs_call (And.intro @St.frzs.eq_1 @St.frzs.eq_2)) (And.intro (And.intro @St.frz.eq_def @AC.frz.eq_def) (And.intro @AV.frz.eq_def @Obj.frz.eq_def))) (And.intro (And.intro (And.intro @frzR.eq_1 @frzR.eq_2) (And.intro @frzH.eq_1 @frzH.eq_2)) (And.intro (And.intro @telT_some @List.size_toArray.{0}) (And.intro @aargs.eq_1 @aargs.eq_2))))) (And.intro (And.intro (And.intro (And.intro @aargs.eq_3 (And.intro @argAV.eq_def @argCells.eq_1)) (And.intro (And.intro @argCells.eq_2 @argCells.eq_3) (And.intro @argCell.eq_def @fnId.eq_def))) (And.intro (And.intro @opRefs_nil (And.intro @opRefs_cons @St.got.eq_def)) (And.intro (And.intro @resACs.eq_1 @resACs.eq_2) (And.intro @resAC.eq_def @outAV.eq_def)))) (And.intro (And.intro (And.intro @Res.scalar.eq_def (And.intro @isSl.eq_def @Tab.add.eq_def)) (And.intro (And.intro @Tab.none.eq_def @tab1.eq_def) (And.intro @tab2.eq_def @tab3.eq_def))) (And.intro (And.intro (And.intro @codL_d @codLL_d) (And.intro @codI_d @codB_d)) (And.intro (And.intro @codCts_d @List.isEmpty_nil.{0}) (And.intro @List.isEmpty_cons.{0} @List.append_eq.{0}))))))))
theorem Zd:type_of% (And.intro @telT_none (And.intro (And.intro (And.intro (And.intro @dregT_mk (And.intro @drunT.eq_1 @drunT.eq_2)) (And.intro @devalT.eq_def (And.intro @deval.eq_def @St.add.eq_def))) (And.intro (And.intro @opnd_move (And.intro @opnd_assign @opnd_load)) (And.intro (And.intro @opnd_box @opnd_alloc) (And.intro @opnd_unOp @opnd_convert)))) (And.intro (And.intro (And.intro @opnd_field (And.intro @opnd_extract @opnd_index)) (And.intro @opnd_make (And.intro @opnd_bin @opnd_pick))) (And.intro (And.intro @opnd_build (And.intro @opnd_buildSlice @opnd_slice)) (And.intro (And.intro @opnd_call @opnd_bcall) (And.intro @Option.toList_some.{0} @Option.toList_none.{0})))))):=(And.intro @telT_none (And.intro (And.intro (And.intro (And.intro @dregT_mk (And.intro @drunT.eq_1 @drunT.eq_2)) (And.intro @devalT.eq_def (And.intro @deval.eq_def @St.add.eq_def))) (And.intro (And.intro @opnd_move (And.intro @opnd_assign @opnd_load)) (And.intro (And.intro @opnd_box @opnd_alloc) (And.intro @opnd_unOp @opnd_convert)))) (And.intro (And.intro (And.intro @opnd_field (And.intro @opnd_extract @opnd_index)) (And.intro @opnd_make (And.intro @opnd_bin @opnd_pick))) (And.intro (And.intro @opnd_build (And.intro @opnd_buildSlice @opnd_slice)) (And.intro (And.intro @opnd_call @opnd_bcall) (And.intro @Option.toList_some.{0} @Option.toList_none.{0}))))))
theorem Zu:type_of% (And.intro (And.intro @cutR.eq_1 @cutR.eq_2) (And.intro @cond_true.{1} @cond_false.{1})):=(And.intro (And.intro @cutR.eq_1 @cutR.eq_2) (And.intro @cond_true.{1} @cond_false.{1}))
theorem Zz:type_of% (And.intro (And.intro (And.intro @look_eq @lookB.eq_1) (And.intro @lookB.eq_2 (And.intro @cond_true.{1} @cond_false.{1}))) (And.intro (And.intro @List.length_append.{0} (And.intro @List.length_map.{0,0} @List.length_cons.{0})) (And.intro @List.length_nil.{0} (And.intro @Nat.zero_add @List.length_set.{0})))):=(And.intro (And.intro (And.intro @look_eq @lookB.eq_1) (And.intro @lookB.eq_2 (And.intro @cond_true.{1} @cond_false.{1}))) (And.intro (And.intro @List.length_append.{0} (And.intro @List.length_map.{0,0} @List.length_cons.{0})) (And.intro @List.length_nil.{0} (And.intro @Nat.zero_add @List.length_set.{0}))))
theorem Zv:type_of% (And.intro (And.intro @List.map_append.{0,0} (And.intro @List.map_cons.{0,0} @List.map_nil.{0,0})) (And.intro (And.intro @List.append_assoc.{0} @List.cons_append.{0}) (And.intro @List.nil_append.{0} @List.append_nil.{0}))):=(And.intro (And.intro @List.map_append.{0,0} (And.intro @List.map_cons.{0,0} @List.map_nil.{0,0})) (And.intro (And.intro @List.append_assoc.{0} @List.cons_append.{0}) (And.intro @List.nil_append.{0} @List.append_nil.{0})))
theorem Zk:type_of% (And.intro (And.intro (And.intro @Tel.sh.eq_def @List.map_cons.{0,0}) (And.intro @List.map_nil.{0,0} (And.intro @AV.refs.eq_def @AC.refs.eq_def))) (And.intro (And.intro @List.flatMap_cons.{0,0} @List.flatMap_nil.{0,0}) (And.intro @List.append_nil.{0} (And.intro @List.nil_append.{0} @Obj.refs.eq_def)))):=(And.intro (And.intro (And.intro @Tel.sh.eq_def @List.map_cons.{0,0}) (And.intro @List.map_nil.{0,0} (And.intro @AV.refs.eq_def @AC.refs.eq_def))) (And.intro (And.intro @List.flatMap_cons.{0,0} @List.flatMap_nil.{0,0}) (And.intro @List.append_nil.{0} (And.intro @List.nil_append.{0} @Obj.refs.eq_def))))
theorem Ze:type_of% (And.intro (And.intro @aresults.eq_1 @aresults.eq_2) (And.intro @aresults.eq_3 @ares.eq_def)):=(And.intro (And.intro @aresults.eq_1 @aresults.eq_2) (And.intro @aresults.eq_3 @ares.eq_def))
theorem Q1:type_of% @RunK.seq:=@RunK.seq
theorem Q2:type_of% @RunK.next:=@RunK.next
theorem Q3:type_of% @RunK.skip:=@RunK.skip
theorem Q4:type_of% @RunK.exit:=@RunK.exit
theorem Q5:type_of% @RunK.ret:=@RunK.ret
theorem Q6:type_of% @RunK.label:=@RunK.label
theorem Q7:type_of% @outK.blkN:=@outK.blkN
theorem Q8:type_of% @outK.blkX:=@outK.blkX
theorem Q9:type_of% @outK.seqX:=@outK.seqX
theorem Qa:type_of% @outK.seqR:=@outK.seqR
theorem Qb:type_of% @outK.blkR:=@outK.blkR
theorem Qc:type_of% @RunK.blockS:=@RunK.blockS
theorem Qd:type_of% @RunK.blockR:=@RunK.blockR
theorem Qe:type_of% @RunK.blockC:=@RunK.blockC
theorem Qf:type_of% @RunK.blockB:=@RunK.blockB
theorem Qo:type_of% @outK.blkO:=@outK.blkO
theorem QT:type_of% @RunK.wT:=@RunK.wT
theorem QF:type_of% @RunK.wF:=@RunK.wF
theorem QS:type_of% @RunK.wS:=@RunK.wS
theorem QC:type_of% @RunK.wC:=@RunK.wC
theorem QD:type_of% @RunK.wD:=@RunK.wD
theorem QW:type_of% @Work.mk:=@Work.mk
theorem QK:type_of% @ChkD.mk:=@ChkD.mk
theorem Qn:type_of% @Fits.nil:=@Fits.nil
theorem Qr:type_of% @Fits.reg:=@Fits.reg
theorem Qj:type_of% @Fits.obj:=@Fits.obj
theorem Qw:type_of% @wk.same:=@wk.same
end Go.Proofs.YtgngidchldajhaaGreat
namespace Go.Proofs.YtgngidchldajhaaGreat
open Go.RowKit
set_option maxHeartbeats 2000000 in
theorem a_l01Own2 (f:List (List Int)) (hl:f.length ≤ 1000) (hs:∀ b ∈ f,b.length ≤ 1000):AFn Tryz.prog 96 [eLL f] (· = [.own 1 (f.map eL) false]):=by
 refine AFn.of_runs (cfg_ok 21) Tryz.func96 rfl rfl rfl (by simp only [List.length_cons,List.length_nil];decide) ?_
 have hres:Tryz.f96.results.toList = [.tmp 2]:=rfl
 have hrts:Tryz.f96.resultTypes.toList = [31]:=rfl
 simp only [argRegs,argAV1,eL,eI,eLL,eB,Nat.zero_add,Nat.reduceAdd]
 intro M
 refine RunK.of ?_
 repeat' (first|with_reducible (first|refine Q1 ?_|refine Q2 ?_|refine Q3 ?_|refine Q4 ?_|refine Q5 ?_|refine Q6 ?_|refine Q7 ?_|refine Q8 ?_|refine Q9 ?_|refine Qa ?_|refine Qb ?_|refine Qc ?_|refine Qd ?_|refine Qe ?_|refine Qf ?_)|((with_reducible refine Qo ?_ ?_);focus rfl)|((with_reducible first|refine QT 5 (l:=?_) ?_ ?_|refine QF 5 (l:=?_) ?_ ?_);rotate_left 1;focus (simp only [Zu,Nat.reduceSub,Nat.reduceBEq];with_reducible rfl))|((with_reducible first|refine QS (cfg_ok 21) Tab.none (s':=?_) ?_ ?_|refine QC (b:=?_) ?_ ?_);rotate_left 1;focus ((with_reducible refine QW ?_);simp only [Zg,seval,if_true,if_false,reduceCtorEq,Nat.reduceEqDiff,eL];with_reducible rfl)))
 refine RunK.loop (β:=Nat) (γ:=Unit) (fun i => ⟨[(0,.c (.val (.sl 1 (f.map eL)))),(3,.c (.own 3 (f.take i).length)),(4,.c (.val (.int i)))],[(3,.row 1 ((f.take i).map eL) false)]⟩) (fun i => i ≤ f.length) (fun i => f.length - i)
  (fun _ => ⟨[(3,.c (.own 3 f.length))],[(3,.row 1 (f.map eL) false)]⟩) (fun _ => True) 0 (Nat.zero_le _) ?_ ?_ ?_
 ·(repeat' (first|with_reducible refine Qn|((with_reducible refine Qr ?_ ?_);focus (first|with_reducible rfl|(simp only [Zz,Nat.reduceBEq,List.take_zero,List.map_nil];done)|rfl))|((with_reducible refine Qj (o':=?_) ?_ ?_ ?_);rotate_left 1;focus rfl)|((with_reducible refine Qw ?_ ?_);(focus (first|with_reducible rfl|(simp only [Zv,List.take_zero,List.map_nil];done)));focus (first|exact id|exact (fun h => nomatch h)|exact (fun _ => rfl)))))
 ·intro i hi
  have hi:i ≤ f.length:=hi
  have hw:=w64_succ (n:=i) (by omega)
  by_cases h:i < f.length
  ·have i1:((i:Int) < (f.length:Int)) = True:=eq_true (by omega)
   have i2:((0:Int) ≤ (i:Int)) = True:=eq_true (by omega)
   obtain ⟨t,ht⟩:∃ t,t = f[i]:=⟨_,rfl⟩
   have hg:(f.map eL)[i]? = some [.sl 1 (t.map eI)]:=by rw [map_get h,ht];rfl
   have htl:t.length ≤ 1000:=hs t (by rw [ht];exact List.getElem_mem h)
   have how:=a_l01Own t (by omega)
   simp only [eL] at how
   have htk:f.take (i + 1) = f.take i ++ [t]:=by rw [ht];exact List.take_succ_eq_append_getElem h
   have hil:(f.take i).length = i:=by rw [List.length_take];omega
   have q1:=big_le (n:=(f.take i).length + 1) (by omega)
   have q2:=big_mul (n:=(f.take i).length + 1) (c:=24) (by omega) (by omega)
   repeat' (first|with_reducible (first|refine Q1 ?_|refine Q2 ?_|refine Q3 ?_|refine Q4 ?_|refine Q5 ?_|refine Q6 ?_|refine Q7 ?_|refine Q8 ?_|refine Q9 ?_|refine Qa ?_|refine Qb ?_|refine Qc ?_|refine Qd ?_|refine Qe ?_|refine Qf ?_)|((with_reducible refine Qo ?_ ?_);focus rfl)|((with_reducible first|refine QT 5 (l:=?_) ?_ ?_|refine QF 5 (l:=?_) ?_ ?_);rotate_left 1;focus (simp only [Zu,Nat.reduceSub,Nat.reduceBEq];with_reducible rfl))|((with_reducible first|refine QS (cfg_ok 21) ((Tab.none.at' 145 how)) (s':=?_) ?_ ?_|refine QC (b:=?_) ?_ ?_);rotate_left 1;focus ((with_reducible refine QW ?_);simp only [Zg,seval,if_true,if_false,reduceCtorEq,Nat.reduceEqDiff,i1,i2,hg,hw,q1,q2,Int.toNat_natCast,List.length_map];with_reducible rfl)))
   refine roundK.on (i + 1) ⟨h,by omega⟩ ?_
   rw [htk]
   (repeat' (first|with_reducible refine Qn|((with_reducible refine Qr ?_ ?_);focus (first|with_reducible rfl|(simp only [Zz,Nat.reduceBEq,eL];done)|rfl))|((with_reducible refine Qj (o':=?_) ?_ ?_ ?_);rotate_left 1;focus rfl)|((with_reducible refine Qw ?_ ?_);(focus (first|with_reducible rfl|(simp only [Zv,eL];done)));focus (first|exact id|exact (fun h => nomatch h)|exact (fun _ => rfl)))))
  ·have i1:((i:Int) < (f.length:Int)) = False:=eq_false (by omega)
   obtain rfl:i = f.length:=by omega
   rw [List.take_length]
   repeat' (first|with_reducible (first|refine Q1 ?_|refine Q2 ?_|refine Q3 ?_|refine Q4 ?_|refine Q5 ?_|refine Q6 ?_|refine Q7 ?_|refine Q8 ?_|refine Q9 ?_|refine Qa ?_|refine Qb ?_|refine Qc ?_|refine Qd ?_|refine Qe ?_|refine Qf ?_)|((with_reducible refine Qo ?_ ?_);focus rfl)|((with_reducible first|refine QT 5 (l:=?_) ?_ ?_|refine QF 5 (l:=?_) ?_ ?_);rotate_left 1;focus (simp only [Zu,Nat.reduceSub,Nat.reduceBEq];with_reducible rfl))|((with_reducible first|refine QS (cfg_ok 21) Tab.none (s':=?_) ?_ ?_|refine QC (b:=?_) ?_ ?_);rotate_left 1;focus ((with_reducible refine QW ?_);simp only [Zg,seval,if_true,if_false,reduceCtorEq,Nat.reduceEqDiff,i1,List.length_map];with_reducible rfl)))
   refine roundK.out () trivial ?_
   (repeat' (first|with_reducible refine Qn|((with_reducible refine Qr ?_ ?_);focus (first|with_reducible rfl|(simp only [Zz,Nat.reduceBEq];done)|rfl))|((with_reducible refine Qj (o':=?_) ?_ ?_ ?_);rotate_left 1;focus rfl)|((with_reducible refine Qw ?_ ?_);(focus (first|with_reducible rfl|(simp only [Zv];done)));focus (first|exact id|exact (fun h => nomatch h)|exact (fun _ => rfl)))))
 ·rintro _ _
  repeat' (first|with_reducible (first|refine Q1 ?_|refine Q2 ?_|refine Q3 ?_|refine Q4 ?_|refine Q5 ?_|refine Q6 ?_|refine Q7 ?_|refine Q8 ?_|refine Q9 ?_|refine Qa ?_|refine Qb ?_|refine Qc ?_|refine Qd ?_|refine Qe ?_|refine Qf ?_)|((with_reducible refine Qo ?_ ?_);focus rfl)|((with_reducible first|refine QT 5 (l:=?_) ?_ ?_|refine QF 5 (l:=?_) ?_ ?_);rotate_left 1;focus (simp only [Zu,Nat.reduceSub,Nat.reduceBEq];with_reducible rfl))|((with_reducible first|refine QS (cfg_ok 21) Tab.none (s':=?_) ?_ ?_|refine QC (b:=?_) ?_ ?_);rotate_left 1;focus ((with_reducible refine QW ?_);simp only [Zg,seval,if_true,if_false,reduceCtorEq,Nat.reduceEqDiff];with_reducible rfl)))
  (refine Ends.mk (by simp) (rs:=?_) (ks:=?_) hres hrts ?_ ?_ ?_;rotate_left 2;(focus (simp only [Ze,Zg,seval,if_true,if_false,reduceCtorEq,Nat.reduceEqDiff];with_reducible rfl));(focus simp);focus (first|with_reducible rfl|(simp only [Zv];done)))
end Go.Proofs.YtgngidchldajhaaGreat
namespace Go.Proofs.YtgngidchldajhaaGreat
open Go.RowKit
theorem sortC_take_succ' {c:List Int→List Int→Int} {t:List (List Int)} (k:Nat) (h:k < t.length):sortC c (t.take (k + 1)) = ins c t[k] (sortC c (t.take k)):=by
 rw [List.take_succ_eq_append_getElem h,sortC_snoc]
theorem own_step {W:World} {ops:Array Oper} {o:Oper} {a:Act} {K:Act→World→Prop} {Q:Exit→Act→World→Prop} {E:Prop} (hgd:o.guard = none) (args:Array Operand) (ts:Array TypeId)
  (ho:o.op = .call { callee:=.value (.func 145),args:=args,argTypes:=ts }) (v:Value) (x:List Int) (hv:args.map a.eval = #[v]) (wb:World) (hW:W.heap = wb.heap) (hr:Rd (RS RI) wb [v] x) (hxl:x.length ≤ 1000000000)
  (h:∀ ou cu w2,Own (RS RI) wb.heap.size w2.heap.size w2 [.slice ou x.length cu] x→Below wb.heap.size W w2→wb.heap.size ≤ w2.heap.size→K (a.put o.dst (.slice ou x.length cu)) w2) :
  if Region.wanted o (yielded ops a.tmps) = true then Oper.wp Tryz.prog o a W K Q else E:=by
 refine step_call hgd 145 args ts ho (enters (P:=Tryz.prog) (f:=145) Tryz.func145 (by kernel_rfl) rfl) #[v] hv ?_
 refine (c_spec_l01Own v x W (hr.of_heap hW) hxl).mono ?_
 rintro e w2 ⟨u,rfl,o2,b2⟩
 obtain ⟨ou,cu,rfl,_⟩:=o2.val
 rw [hW] at o2 b2
 exact ⟨_,rfl,h ou cu w2 o2 b2 (by have:=b2.size;rw [hW] at this;exact this)⟩
set_option maxRecDepth 100000 in
set_option maxHeartbeats 4000000 in
theorem c_spec_l03Sort (v:Value) (bs:List (List Int)) (w:World) (h:Rd (RS (RS RI)) w [v] bs) (hsz:bs.length ≤ 1000000) (hsl:∀ b ∈ bs,b.length ≤ 1000000000) :
  Calls Tryz.prog 222 #[v] w (RetO (RS (RS RI)) w (forest bs)):=by
 obtain ⟨oa,cap,L⟩:=h.lists
 obtain rfl:=L.val
 have m1:=L.le;have m2:=L.capLe
 have HL:=Lib.hid L
 have HS:=Lib.hid hsl
 have EGL:=Lib.hid (enters (P:=Tryz.prog) (f:=145) Tryz.func145 (by kernel_rfl) rfl)
 clear L h hsl
 go_enter Tryz.func222,Tryz.ntmps222
 go_wp2_with fail
 go_loopw [3,4] (fun o i wr => ∃ (k:Nat) (ys:List (List Int)),k ≤ bs.length∧i = .int .i64 k∧Hid (ys = sortC cmpT (bs.take k))∧Hid (ys.length = k)∧(∃ g cap,o = .slice (some ⟨g,0,none⟩) ys.length cap)∧Hid (Own (RS (RS RI)) w.heap.size wr.heap.size wr [o] ys)∧Below w.heap.size w wr) (fun _ i _ => bs.length - (intOf i).toNat)
 case atStart => exact ⟨0,[],Nat.zero_le _,rfl,Lib.hid (by simp [sortC]),Lib.hid rfl,⟨_,_,rfl⟩,Lib.hid ((Own.empty (R:=RS RI) (w:=w) 24 w.heap.size (Nat.le_refl _)).top _ (by simp)),(Below.refl _ _).alloc (Nat.le_refl _) _⟩
 case round =>
  obtain ⟨k,ys,hk,rfl,hys,Hyl,⟨g0,cap0,rfl⟩,hown,hbel⟩:=hrel
  have hsz2:=hbel.size
  obtain ⟨wo,hwo⟩:∃ wo:World,wo = wr:=⟨_,rfl⟩
  subst hwo
  by_cases hlt:k < bs.length
  ·obtain ⟨b,off,rfl,hb,hc⟩:=HL.out.get hlt
   obtain ⟨oi,ci,g1,hrd,q1,q2⟩:=hc k hlt
   have g2:wo.cell? ⟨b,off + k,none⟩ = some (.slice oi bs[k].length ci):=(hbel.cell (p:=⟨b,off + k,none⟩) hb).trans g1
   have hst:=sortC_take_succ' (c:=cmpT) k hlt
   rw [← hys.out] at hst
   obtain ⟨x,hx⟩:∃ x,x = bs[k]:=⟨_,rfl⟩
   have hxl:x.length ≤ 1000000000:=by rw [hx];exact HS.out _ (List.getElem_mem hlt)
   rw [← hx] at g2 hrd q1 hst
   have HST:=Lib.hid hst
   have HR:=Lib.hid (hrd.below hbel (Nat.le_refl _))
   have HOO:Hid (∀ (W' w2:World),W'.heap = wo.heap→Below wo.heap.size W' w2→Own (RS (RS RI)) w.heap.size wo.heap.size w2 [.slice (some ⟨g0,0,none⟩) ys.length cap0] ys):=Lib.hid (fun W' w2 e b => (hown.out.of_heap e).below b (Nat.le_refl _))
   have ik1:(0:Int) ≤ (k:Int):=by omega
   have ik2:(k:Int) < (bs.length:Int):=by omega
   clear hst hc g1 hx hrd
   go_wp2_with fail
   go_loopw [5] (fun i wr => ∃ (j:Nat),j ≤ ys.length∧i = .int .i64 j∧Hid (∀ q (h:q < ys.length),q < j→¬ cmpT x ys[q] < 0)∧∃ n,wr = wo.drewN n) (fun i _ => ys.length - (intOf i).toNat)
   case atStart => exact ⟨0,Nat.zero_le _,rfl,Lib.hid (fun q _ h => by omega),0,rfl⟩
   case round =>
    obtain ⟨j,hj,rfl,hall,nd,rfl⟩:=hrel
    have HO3:Hid (Own (RS (RS RI)) w.heap.size wo.heap.size (wo.drewN nd) [.slice (some ⟨g0,0,none⟩) ys.length cap0] ys):=hown.out.of_heap rfl
    have g3:(wo.drewN nd).cell? ⟨b,off + k,none⟩ = some (.slice oi x.length ci):=g2
    have hyb:ys.length ≤ 1000000:=by rw [Hyl.out];omega
    have hle4:=hown.out.val
    obtain ⟨_,_,ev,le4,_⟩:=hle4
    simp only [Value.slice.injEq,true_and] at ev
    obtain ⟨rfl,rfl⟩:=ev
    by_cases hjl:j < ys.length
    ·obtain ⟨g',cap',h0,hv,q1',q2',hg1',hg2',hcell,hel⟩:=HO3.out.elem j hjl
     simp only [Value.slice.injEq,true_and] at hv
     obtain ⟨e1,e2⟩:=hv
     simp only [Option.some.injEq,Addr.mk.injEq,and_true] at e1
     subst e1;subst e2
     obtain ⟨oj,cj,rfl,_⟩:=hel.val
     have hls:∀ a,Calls Tryz.prog 167 #[.slice oi x.length ci,.slice oj ys[j].length cj] (wo.drewN (nd + a)) (RetQ (wo.drewN (nd + a)) (.bool (decide (cmpT x ys[j] < 0)))):=fun a => c_spec_l03Before _ _ x ys[j] _ (HR.out.of_heap rfl) (hel.rd.of_heap rfl)
     obtain ⟨yl,hyl'⟩:∃ yl,yl = ys[j].length:=⟨_,rfl⟩
     rw [← hyl'] at hls hcell
     replace hcell:wo.cell? ⟨g0,j,none⟩ = some (.slice oj yl cj):=hcell
     have ij1:(0:Int) ≤ (j:Int):=by omega
     have ij2:(j:Int) < (ys.length:Int):=by omega
     have ij3:decide ((j:Int) < (ys.length:Int)) = true:=decide_eq_true ij2
     clear hel hyl'
     by_cases hle:cmpT x ys[j] < 0
     ·have hd:decide (cmpT x ys[j] < 0) = true:=decide_eq_true hle
      rw [hd] at hls
      have HLS:=Lib.hid hls
      have HE:Hid (ins cmpT x ys = ys.take j ++ x :: ys.drop j):=Lib.hid (ins_at hj hall.out (fun _ => hle))
      clear hd hle hls
      go_wp2_with fail
      go_quiet ((go_at_call 167;exact Calls.qQ' (HLS.out _)))
      clear HLS hcell
      have hcj:¬ cap0 = j:=by omega
      go_wp2_with fail
      go_region_law (first
       | (refine own_step rfl _ _ rfl (.slice oi x.length ci) x (by simp [Act.eval]) wo (by rfl) HR.out hxl ?_;intro ou cu w2 o2 b2 hsz5;have HO4:=HOO.out _ _ (by rfl) b2;obtain ⟨d1,d2,t1l,t2l,t1,t2,t3,hcl,hmk⟩:=HO4.insRow (R:=RS RI) rfl hsz5 hsz2 o2 j hj;rw [← HE.out,← HST.out] at hmk;have T1L:=Lib.hid t1l;have T2L:=Lib.hid t2l;have hbel4:Below w.heap.size w w2:=(hbel.trans (Below.drewN _ _ _)).trans (b2.mono hsz2);clear t1l t2l o2 HO4)
       | (refine step_appendS rfl _ _ 31 rfl 24 (.slice none 0 0) 1 24 tI64S (.slice (some ⟨w2.heap.size,0,none⟩) 1 1) 1 [.slice ou x.length cu] (some w2.heap.size) rfl (by simpa using Row.lit w2 #[.slice ou x.length cu] 24 1 1 (by decide) (by simp)) _ _ _ d2 rfl (by have:=T2L.out;omega) (by intro h;cases h) (by intro a ha i u hi;cases ha;rw [Addr.add_lit];exact (hcl (w2.alloc _) ((Below.refl _ _).alloc (Nat.le_refl _) _)).2 i u hi) t2 (by have:=T2L.out;omega) (by have:=T2L.out;unfold maxLen;omega) ?_;intro vA wA ogA happA))
      all_goals
       replace happA:Appended (w2.alloc (.cells #[.slice ou x.length cu] 24)) wA vA 1 (1 + d2.length) ([.slice ou x.length cu] ++ d2) (some w2.heap.size) ogA:=by have e:=T2L.out;first|exact happA|(rw [e];simpa using happA)
       obtain ⟨oA,capA,rfl,pA1,pA2⟩:=happA.1.val
       unfold maxLen at pA2
       have lowA:=happA.low (B:=(w2).heap.size) (by simp) (fun g hg => by cases hg;exact Nat.le_refl _)
       have belA:Below (w2).heap.size (w2) wA:=((Below.refl _ _).alloc (Nat.le_refl _) _).trans lowA.2
       have sA:=belA.size
       have HA:=Lib.hid happA.1
       have HogA:=Lib.hid lowA.1
       have CA:=(hcl wA belA).1
       clear happA lowA
       go_wp2_with (at_builtin;refine StopAt (o:=⟨some 46,_,_,_,_,_⟩) ?_)
       refine Stop.go ?_
       refine wpList_appendS rfl _ _ 31 rfl 24 (.slice none 0 0) 1 24 tI64S (.slice (some ⟨wA.heap.size,0,none⟩) 0 0) 0 [] (some wA.heap.size) rfl (by simpa using Row.lit wA #[] 24 1 0 (by decide) (by simp)) (some ⟨g0,0,none⟩) j _ d1 rfl (by have:=T1L.out;omega) (fun h => by cases h) (by intro a ha i u hi;cases ha;rw [Addr.add_lit,Nat.zero_add];have:=(hcl (wA.alloc (.cells #[] 24)) (belA.alloc sA _)).1 i u hi;exact this) t1 (by have:=T1L.out;omega) (by unfold maxLen;omega) ?_
       intro vB wB ogB happB
       rw [Nat.zero_add,List.nil_append] at happB
       obtain ⟨oB,capB,rfl,pB1,pB2⟩:=happB.1.val
       unfold maxLen at pB2
       have lowB:=happB.low (B:=(w2).heap.size) (Nat.le_trans sA (by simp)) (fun g hg => by cases hg;exact sA)
       have lowB2:=happB.low (B:=wA.heap.size) (by simp) (fun g hg => by cases hg;exact Nat.le_refl _)
       have belB2:Below wA.heap.size wA wB:=((Below.refl _ _).alloc (Nat.le_refl _) _).trans lowB2.2
       have belB:Below (w2).heap.size (w2) wB:=belA.trans (belB2.mono sA)
       have sB:=belB.size
       have hrA:Row wB (.slice oA (1 + d2.length) capA) 1 (1 + d2.length) ([(.slice ou x.length cu)] ++ d2) ogA:=HA.out.frame (fun g hg => belB2.block g (HA.out.lt g hg))
       obtain ⟨gA,hgA⟩:=hrA.some_of (j:=0) (by omega)
       subst hgA
       obtain ⟨oA',cA',eA,_,_,_,eA2⟩:=hrA.value
       simp only [Value.slice.injEq,true_and] at eA
       obtain ⟨rfl,rfl⟩:=eA
       simp only [Option.map_some] at eA2
       subst eA2
       have HRA:=Lib.hid hrA
       have HB:=Lib.hid happB.1
       have HogB:=Lib.hid lowB.1
       clear hrA happB lowB lowB2 CA
       go_wp2_with (at_builtin;refine StopAt (o:=⟨some 48,_,_,_,_,_⟩) ?_)
       refine Stop.go ?_
       refine wpList_appendS rfl _ _ 31 rfl 24 (.slice none 0 0) 1 24 tI64S (.slice oB j capB) j d1 ogB rfl HB.out (some ⟨gA,0,none⟩) _ _ ([(.slice ou x.length cu)] ++ d2) rfl (by simp <;> omega) (fun h => by cases h) (by intro a ha i u hi;cases ha;rw [Addr.add_lit,Nat.zero_add];exact HRA.out.cells i u hi) (fun u hu => (List.mem_append.1 hu).elim (fun h => by simp at h;subst h;exact t3) (t2 u)) (by have:=T2L.out;omega) (by have:=T2L.out;unfold maxLen;omega) ?_
       intro vC wC ogC happC
       have lowC:=happC.low (B:=(w2).heap.size) sB HogB.out
       have belC:Below (w2).heap.size (w2) wC:=belB.trans lowC.2
       have hrC:=happC.1
       have eN:j + (1 + d2.length) = ys.length + 1:=by have:=T1L.out;have:=T2L.out;omega
       rw [eN,List.singleton_append] at hrC
       have hfin:=hmk wC vC ogC belC hrC lowC.1
       obtain ⟨gC,hgC⟩:=hrC.some_of (j:=0) (by omega)
       subst hgC
       obtain ⟨capC,hvC,_,_⟩:=hrC.slice
       subst hvC
       have HFIN:=Lib.hid hfin
       clear hfin hrC happC lowC HA HB HRA HogA HogB eN
       have hfl:(sortC cmpT (bs.take (k + 1))).length = ys.length + 1:=by rw [sortC_length];simp;rw [Hyl.out];omega
       obtain ⟨zs,hzs⟩:∃ zs,zs = sortC cmpT (bs.take (k + 1)):=⟨_,rfl⟩
       rw [← hzs] at HFIN hfl
       have hkz:zs.length = k + 1:=by rw [hfl,Hyl.out]
       rw [← hfl] at HFIN
       rw [← hfl]
       have HZ:=Lib.hid hzs
       have HKZ:=Lib.hid hkz
       clear hzs hfl hkz
       go_wp2_with fail
       go_roundw
       case rel => exact ⟨k + 1,zs,by omega,by go_num,HZ,HKZ,⟨_,_,rfl⟩,HFIN,hbel4.trans (belC.mono (Nat.le_trans hsz2 hsz5))⟩
       case measure => simp [intOf];omega
     ·have hd:decide (cmpT x ys[j] < 0) = false:=decide_eq_false hle
      rw [hd] at hls
      have HLS:=Lib.hid hls
      have HN:Hid (¬ cmpT x ys[j] < 0):=Lib.hid hle
      clear hd hle hls
      go_wp2_with fail
      go_quiet ((go_at_call 167;exact Calls.qQ' (HLS.out _)))
      go_wp2_with fail
      go_roundw
      case rel =>
       refine ⟨j + 1,by omega,by go_num,Lib.hid (fun q h hq => ?_),(by first|exact drewN1 _ _|exact drewN2 _ _ _|exact drewN3 _ _ _ _)⟩
       by_cases hqj:q = j
       ·subst hqj;have:=HN.out;omega
       ·have:=hall.out q h (by omega);omega
      case measure => simp [intOf];omega
    ·obtain rfl:j = ys.length:=by omega
     have HE:Hid (ins cmpT x ys = ys.take ys.length ++ x :: ys.drop ys.length):=Lib.hid (ins_at hj hall.out (fun h => by omega))
     have ij3:decide ((ys.length:Int) < (ys.length:Int)) = false:=by simp
     go_wp2_with fail
     go_quiet (fail)
     by_cases hcj:cap0 = ys.length
     all_goals
      go_wp2_with fail
      go_region_law (first
       | (refine own_step rfl _ _ rfl (.slice oi x.length ci) x (by simp [Act.eval]) wo (by rfl) HR.out hxl ?_;intro ou cu w2 o2 b2 hsz5;have HO4:=HOO.out _ _ (by rfl) b2;obtain ⟨d1,d2,t1l,t2l,t1,t2,t3,hcl,hmk⟩:=HO4.insRow (R:=RS RI) rfl hsz5 hsz2 o2 ys.length hj;rw [← HE.out,← HST.out] at hmk;have T1L:=Lib.hid t1l;have T2L:=Lib.hid t2l;have hbel4:Below w.heap.size w w2:=(hbel.trans (Below.drewN _ _ _)).trans (b2.mono hsz2);clear t1l t2l o2 HO4)
       | (refine step_appendS rfl _ _ 31 rfl 24 (.slice none 0 0) 1 24 tI64S (.slice (some ⟨w2.heap.size,0,none⟩) 1 1) 1 [.slice ou x.length cu] (some w2.heap.size) rfl (by simpa using Row.lit w2 #[.slice ou x.length cu] 24 1 1 (by decide) (by simp)) _ _ _ d2 rfl (by have:=T2L.out;omega) (by intro h;simp) (by intro a ha i u hi;rw [List.eq_nil_of_length_eq_zero (l:=d2) (by have:=T2L.out;omega)] at hi;simp at hi) t2 (by have:=T2L.out;omega) (by have:=T2L.out;unfold maxLen;omega) ?_;intro vA wA ogA happA))
      all_goals
       replace happA:Appended (w2.alloc (.cells #[.slice ou x.length cu] 24)) wA vA 1 (1 + d2.length) ([.slice ou x.length cu] ++ d2) (some w2.heap.size) ogA:=by have e:=T2L.out;first|exact happA|(rw [e];simpa using happA)
       obtain ⟨oA,capA,rfl,pA1,pA2⟩:=happA.1.val
       unfold maxLen at pA2
       have lowA:=happA.low (B:=(w2).heap.size) (by simp) (fun g hg => by cases hg;exact Nat.le_refl _)
       have belA:Below (w2).heap.size (w2) wA:=((Below.refl _ _).alloc (Nat.le_refl _) _).trans lowA.2
       have sA:=belA.size
       have HA:=Lib.hid happA.1
       have HogA:=Lib.hid lowA.1
       have CA:=(hcl wA belA).1
       clear happA lowA
       go_wp2_with (at_builtin;refine StopAt (o:=⟨some 46,_,_,_,_,_⟩) ?_)
       refine Stop.go ?_
       refine wpList_appendS rfl _ _ 31 rfl 24 (.slice none 0 0) 1 24 tI64S (.slice (some ⟨wA.heap.size,0,none⟩) 0 0) 0 [] (some wA.heap.size) rfl (by simpa using Row.lit wA #[] 24 1 0 (by decide) (by simp)) (some ⟨g0,0,none⟩) ys.length _ d1 rfl (by have:=T1L.out;omega) (fun h => by cases h) (by intro a ha i u hi;cases ha;rw [Addr.add_lit,Nat.zero_add];have:=(hcl (wA.alloc (.cells #[] 24)) (belA.alloc sA _)).1 i u hi;exact this) t1 (by have:=T1L.out;omega) (by unfold maxLen;omega) ?_
       intro vB wB ogB happB
       rw [Nat.zero_add,List.nil_append] at happB
       obtain ⟨oB,capB,rfl,pB1,pB2⟩:=happB.1.val
       unfold maxLen at pB2
       have lowB:=happB.low (B:=(w2).heap.size) (Nat.le_trans sA (by simp)) (fun g hg => by cases hg;exact sA)
       have lowB2:=happB.low (B:=wA.heap.size) (by simp) (fun g hg => by cases hg;exact Nat.le_refl _)
       have belB2:Below wA.heap.size wA wB:=((Below.refl _ _).alloc (Nat.le_refl _) _).trans lowB2.2
       have belB:Below (w2).heap.size (w2) wB:=belA.trans (belB2.mono sA)
       have sB:=belB.size
       have hrA:Row wB (.slice oA (1 + d2.length) capA) 1 (1 + d2.length) ([(.slice ou x.length cu)] ++ d2) ogA:=HA.out.frame (fun g hg => belB2.block g (HA.out.lt g hg))
       obtain ⟨gA,hgA⟩:=hrA.some_of (j:=0) (by omega)
       subst hgA
       obtain ⟨oA',cA',eA,_,_,_,eA2⟩:=hrA.value
       simp only [Value.slice.injEq,true_and] at eA
       obtain ⟨rfl,rfl⟩:=eA
       simp only [Option.map_some] at eA2
       subst eA2
       have HRA:=Lib.hid hrA
       have HB:=Lib.hid happB.1
       have HogB:=Lib.hid lowB.1
       clear hrA happB lowB lowB2 CA
       go_wp2_with (at_builtin;refine StopAt (o:=⟨some 48,_,_,_,_,_⟩) ?_)
       refine Stop.go ?_
       refine wpList_appendS rfl _ _ 31 rfl 24 (.slice none 0 0) 1 24 tI64S (.slice oB ys.length capB) ys.length d1 ogB rfl HB.out (some ⟨gA,0,none⟩) _ _ ([(.slice ou x.length cu)] ++ d2) rfl (by simp <;> omega) (fun h => by cases h) (by intro a ha i u hi;cases ha;rw [Addr.add_lit,Nat.zero_add];exact HRA.out.cells i u hi) (fun u hu => (List.mem_append.1 hu).elim (fun h => by simp at h;subst h;exact t3) (t2 u)) (by have:=T2L.out;omega) (by have:=T2L.out;unfold maxLen;omega) ?_
       intro vC wC ogC happC
       have lowC:=happC.low (B:=(w2).heap.size) sB HogB.out
       have belC:Below (w2).heap.size (w2) wC:=belB.trans lowC.2
       have hrC:=happC.1
       have eN:ys.length + (1 + d2.length) = ys.length + 1:=by have:=T1L.out;have:=T2L.out;omega
       rw [eN,List.singleton_append] at hrC
       have hfin:=hmk wC vC ogC belC hrC lowC.1
       obtain ⟨gC,hgC⟩:=hrC.some_of (j:=0) (by omega)
       subst hgC
       obtain ⟨capC,hvC,_,_⟩:=hrC.slice
       subst hvC
       have HFIN:=Lib.hid hfin
       clear hfin hrC happC lowC HA HB HRA HogA HogB eN
       have hfl:(sortC cmpT (bs.take (k + 1))).length = ys.length + 1:=by rw [sortC_length];simp;rw [Hyl.out];omega
       obtain ⟨zs,hzs⟩:∃ zs,zs = sortC cmpT (bs.take (k + 1)):=⟨_,rfl⟩
       rw [← hzs] at HFIN hfl
       have hkz:zs.length = k + 1:=by rw [hfl,Hyl.out]
       rw [← hfl] at HFIN
       rw [← hfl]
       have HZ:=Lib.hid hzs
       have HKZ:=Lib.hid hkz
       clear hzs hfl hkz
       go_wp2_with fail
       go_roundw
       case rel => exact ⟨k + 1,zs,by omega,by go_num,HZ,HKZ,⟨_,_,rfl⟩,HFIN,hbel4.trans (belC.mono (Nat.le_trans hsz2 hsz5))⟩
       case measure => simp [intOf];omega
  ·have hfin:Hid (ys = forest bs):=Lib.hid (by rw [hys.out,List.take_of_length_le (by omega)];rfl)
   have hkb:¬ ((k:Int) < (bs.length:Int)):=by omega
   clear hlt
   go_wp2_with fail
   go_ret
   exact ⟨_,rfl,by rw [← hfin.out];exact hown.out,hbel⟩
end Go.Proofs.YtgngidchldajhaaGreat
namespace Go.Proofs.YtgngidchldajhaaGreat
open Go.RowKit
theorem AFn.val1 {P:Program} {f:FuncId} {ds:List (List D)} {k:Nat} {xs:List (List D)} (h:AFn P f ds (· = [.own k xs false])):AFn P f ds (· = [.val (.sl k xs)]):=by
 refine ⟨h.call,fun A w vs hA hr => (h.fn A w vs hA hr).mono ?_⟩
 rintro e w' ⟨v,rs,rfl,rfl,hb,us,G,X,rfl,hG1,hG2,v1,us1,G1,G2,Y1,Y2,rfl,rfl,rfl,ho,⟨og,cap,F,dd,rfl,hrow,hk,rfl,rfl,hel⟩,rfl,rfl,rfl⟩
 refine ⟨_,_,rfl,rfl,hb,[_],[],[],rfl,List.nodup_nil,(fun b hb => nomatch hb),_,[],[],[],[],[],rfl,rfl,rfl,ho,⟨?_,rfl,rfl⟩,rfl,rfl,rfl⟩
 have hel:rdR k (fun b => (A b ∨ w.heap.size ≤ b)∧b ∉ og.toList ++ []) w' dd xs:=hel
 obtain ⟨oa,c,e,h1,h2,h3,h4⟩:=slv_len hrow
 refine rdV_sl.2 ⟨oa,c,dd,e,h1,h2,h3,hel.mono (fun b hb _ => ⟨hb.1,by simp⟩),?_⟩
 cases og with
 | none =>
  left
  have:=hrow.len0
  exact List.eq_nil_of_length_eq_zero (by rw [hrow.1,this,Nat.zero_mul])
 | some g =>
  refine .inr ⟨g,0,h4,⟨.inr (hG2 g (by simp)),by simp⟩,fun j u hj => ?_⟩
  rw [Nat.zero_add]
  exact hrow.cells j u hj
def SmF (f:List (List Int)):Prop:=f.length ≤ 19∧sumLen f ≤ 100
instance (f:List (List Int)):Decidable (SmF f):=inferInstanceAs (Decidable (_∧_))
theorem SmF.b {f:List (List Int)} (h:SmF f):∀ b ∈ f,b.length ≤ 1000:=fun b hb => by have:=sumLen_mem hb;have:=h.2;omega
theorem AFn.valT {P:Program} {f:FuncId} {ds:List (List D)} {k:Nat} {xs:List (List D)} (h:AFn P f ds (· = [.own k xs true])):AFn P f ds (· = [.val (.sl k xs)]):=by
 refine ⟨h.call,fun A w vs hA hr => (h.fn A w vs hA hr).mono ?_⟩
 rintro e w' ⟨v,rs,rfl,rfl,hb,us,G,X,rfl,hG1,hG2,v1,us1,G1,G2,Y1,Y2,rfl,rfl,rfl,ho,⟨og,cap,F,dd,rfl,hrow,hk,rfl,rfl,hel⟩,rfl,rfl,rfl⟩
 refine ⟨_,_,rfl,rfl,hb,[_],[],[],rfl,List.nodup_nil,(fun b hb => nomatch hb),_,[],[],[],[],[],rfl,rfl,rfl,ho,⟨?_,rfl,rfl⟩,rfl,rfl,rfl⟩
 have hel:ownR k w' dd xs F:=hel
 have hv:=ownV_sl.2 ⟨og,dd,F,hrow,hel,rfl⟩
 exact hv.rd.mono (fun b hb _ => ⟨.inr (hG2 b (by simpa using hb)),by simp⟩)
theorem a_forestOf (f:List (List Int)) (hl:f.length ≤ 19) (hs:sumLen f ≤ 1000000000):AFn Tryz.prog 77 [eLL f] (· = [.own 1 ((forest f).map eL) true]) :=
 afn_LLL_oo (enters_of Tryz.func77 rfl rfl) (fun u w h => c_impl_forestOf u f w h hl (fun b hb => Nat.le_trans (sumLen_mem hb) hs))
theorem a_l03Sort (f:List (List Int)) (hl:f.length ≤ 1000) (hs:∀ b ∈ f,b.length ≤ 1000):AFn Tryz.prog 222 [eLL f] (· = [.own 1 ((forest f).map eL) true]) :=
 afn_LLL_oo (enters_of Tryz.func222 rfl rfl) (fun u w h => c_spec_l03Sort u f w h (by omega) (fun b hb => by have:=hs b hb;omega))
set_option maxHeartbeats 2000000 in
theorem a_l03Times (f g:List (List Int)) (hl:f.length ≤ 400) (hs:∀ b ∈ f,b.length ≤ 1000) (hl2:g.length ≤ 400) (hs2:∀ b ∈ g,b.length ≤ 1000):AFn Tryz.prog 186 [eLL f,eLL g] (· = [.own 1 ((mulF f g).map eL) true]):=by
 have h1:=a_l01Own2 f (by omega) hs
 have h2:=a_l03Sort (f ++ g) (by rw [List.length_append];omega) (fun b hb => by
  rcases List.mem_append.1 hb with hb|hb
  ·exact hs b hb
  ·exact hs2 b hb)
 simp only [eLL,List.map_append] at h1 h2
 have q1:=big_le (n:=f.length + g.length) (by omega)
 have q2:=big_mul (n:=f.length + g.length) (c:=24) (by omega) (by omega)
 have e:mulF f g = forest (f ++ g):=rfl
 rw [e]
 refine AFn.of_runs (cfg_ok 10) Tryz.func186 rfl rfl rfl (by simp only [List.length_cons,List.length_nil];decide) ?_
 have hres:Tryz.f186.results.toList = [.tmp 4]:=rfl
 have hrts:Tryz.f186.resultTypes.toList = [31]:=rfl
 simp only [argRegs,argAV1,eL,eI,eLL,eB,Nat.zero_add,Nat.reduceAdd]
 intro M
 refine RunK.of ?_
 repeat' (first|with_reducible (first|refine Q1 ?_|refine Q2 ?_|refine Q3 ?_|refine Q4 ?_|refine Q5 ?_|refine Q6 ?_|refine Q7 ?_|refine Q8 ?_|refine Q9 ?_|refine Qa ?_|refine Qb ?_|refine Qc ?_|refine Qd ?_|refine Qe ?_|refine Qf ?_)|((with_reducible refine Qo ?_ ?_);focus rfl)|((with_reducible first|refine QT 5 (l:=?_) ?_ ?_|refine QF 5 (l:=?_) ?_ ?_);rotate_left 1;focus (simp only [Zu,Nat.reduceSub,Nat.reduceBEq];with_reducible rfl))|((with_reducible first|refine QS (cfg_ok 10) (((Tab.none.at' 96 h1).at' 222 h2)) (s':=?_) ?_ ?_|refine QC (b:=?_) ?_ ?_);rotate_left 1;focus ((with_reducible refine QW ?_);simp only [Zg,seval,if_true,if_false,reduceCtorEq,Nat.reduceEqDiff,q1,q2,List.length_map];with_reducible rfl)))
 (refine Ends.mk (by simp) (rs:=?_) (ks:=?_) hres hrts ?_ ?_ ?_;rotate_left 2;(focus (simp only [Ze,Zg,seval,if_true,if_false,reduceCtorEq,Nat.reduceEqDiff];with_reducible rfl));(focus simp);focus (first|with_reducible rfl|(simp only [Zv];done)))
theorem a_canonical13 (t:List Int) (h:LevP t) (hl:t.length ≤ 13):AFn Tryz.prog 79 [eL t] (· = [.own 1 ((canon t).map eI) true]) :=
 afn_L_o (enters_of Tryz.func79 rfl rfl) (fun u w h' => c_impl_canonical 13 u t w h' h hl (by omega))
theorem a_rootOn (f:List (List Int)) (hs:Small f) (hsz:sumLen f ≤ 1000000000):AFn Tryz.prog 127 [eLL f] (· = [.own 1 ((rootOn f).map eI) true]) :=
 afn_LLL_o (enters_of Tryz.func127 rfl rfl) (fun u w h => c_impl_rootOn u f w h hs hsz)
theorem a_l03CanonB (t:List Int) (h:LevP t) (hl:t.length ≤ 1000):AFn Tryz.prog 75 [eL t] (· = [.own 1 ((canon t).map eI) true]) :=
 afn_L_o (enters_of Tryz.func75 rfl rfl) (fun u w h' => c_spec_l03Canon 1000 u t w h' h hl (by omega))
set_option maxHeartbeats 4000000 in
theorem a_l03Root (f:List (List Int)) (hf:SmF f) (hlev:∀ b ∈ f,LevP b):AFn Tryz.prog 210 [eLL f] (· = [.own 1 ((canon (rootOn f)).map eI) true]):=by
 have hrl:=rootOn_len f
 have hca:=a_l03CanonB (rootOn f) (rootOn_lev hlev) (by have:=hf.2;omega)
 simp only [eL] at hca
 have hsum:∀ i,(rootOn (f.take i)).length ≤ 101:=fun i => by
  rw [rootOn_len]
  have h1:=hf.2
  have h2:sumLen (f.take i) ≤ sumLen f:=by
   conv => rhs;rw [← List.take_append_drop i f]
   simp only [sumLen,List.map_append,List.sum_append];omega
  omega
 refine AFn.of_runs (cfg_ok 35) Tryz.func210 rfl rfl rfl (by simp only [List.length_cons,List.length_nil];decide) ?_
 have hres:Tryz.f210.results.toList = [.tmp 2]:=rfl
 have hrts:Tryz.f210.resultTypes.toList = [24]:=rfl
 simp only [argRegs,argAV1,eL,eI,eLL,eB,Nat.zero_add,Nat.reduceAdd]
 intro M
 refine RunK.of ?_
 repeat' (first|with_reducible (first|refine Q1 ?_|refine Q2 ?_|refine Q3 ?_|refine Q4 ?_|refine Q5 ?_|refine Q6 ?_|refine Q7 ?_|refine Q8 ?_|refine Q9 ?_|refine Qa ?_|refine Qb ?_|refine Qc ?_|refine Qd ?_|refine Qe ?_|refine Qf ?_)|((with_reducible refine Qo ?_ ?_);focus rfl)|((with_reducible first|refine QT 6 (l:=?_) ?_ ?_|refine QF 6 (l:=?_) ?_ ?_);rotate_left 1;focus (simp only [Zu,Nat.reduceSub,Nat.reduceBEq];with_reducible rfl))|((with_reducible first|refine QS (cfg_ok 35) Tab.none (s':=?_) ?_ ?_|refine QC (b:=?_) ?_ ?_);rotate_left 1;focus ((with_reducible refine QW ?_);simp only [Zg,seval,if_true,if_false,reduceCtorEq,Nat.reduceEqDiff];with_reducible rfl)))
 refine RunK.loop (β:=Nat) (γ:=Unit) (fun i => ⟨[(0,.c (.val (.sl 1 (f.map eL)))),(3,.c (.own 3 (rootOn (f.take i)).length)),(4,.c (.val (.int i)))],[(3,.row 1 ((rootOn (f.take i)).map eI) true)]⟩) (fun i => i ≤ f.length) (fun i => f.length - i)
  (fun _ => ⟨[(3,.c (.own 3 (rootOn f).length))],[(3,.row 1 ((rootOn f).map eI) true)]⟩) (fun _ => True) 0 (Nat.zero_le _) ?_ ?_ ?_
 ·(repeat' (first|with_reducible refine Qn|((with_reducible refine Qr ?_ ?_);focus (first|with_reducible rfl|(simp only [Zz,Nat.reduceBEq,List.take_zero,show rootOn [] = [0] from rfl,eI,List.map_cons,List.map_nil,List.length_cons,List.length_nil];done)|rfl))|((with_reducible refine Qj (o':=?_) ?_ ?_ ?_);rotate_left 1;focus rfl)|((with_reducible refine Qw ?_ ?_);(focus (first|with_reducible rfl|(simp only [Zv,List.take_zero,show rootOn [] = [0] from rfl,eI,List.map_cons,List.map_nil,List.length_cons,List.length_nil];done)));focus (first|exact id|exact (fun h => nomatch h)|exact (fun _ => rfl)))))
 ·intro i hi
  have hi:i ≤ f.length:=hi
  have hw:=w64_succ (n:=i) (by have:=hf.1;omega)
  by_cases h:i < f.length
  ·have i1:((i:Int) < (f.length:Int)) = True:=eq_true (by omega)
   have i2:((0:Int) ≤ (i:Int)) = True:=eq_true (by omega)
   obtain ⟨b,hb⟩:∃ b,b = f[i]:=⟨_,rfl⟩
   have hg:(f.map eL)[i]? = some [.sl 1 (b.map eI)]:=by rw [map_get h,hb];rfl
   have hbl:b.length ≤ 100:=by have:=sumLen_mem (show b ∈ f by rw [hb];exact List.getElem_mem _);have:=hf.2;omega
   have hbs:=(hlev b (by rw [hb];exact List.getElem_mem _)).small (by omega)
   have hst:rootOn (f.take (i + 1)) = rootOn (f.take i) ++ b.map (· + 1):=by rw [List.take_succ_eq_append_getElem h,rootOn_snoc,hb]
   have hsi:=hsum i
   repeat' (first|with_reducible (first|refine Q1 ?_|refine Q2 ?_|refine Q3 ?_|refine Q4 ?_|refine Q5 ?_|refine Q6 ?_|refine Q7 ?_|refine Q8 ?_|refine Q9 ?_|refine Qa ?_|refine Qb ?_|refine Qc ?_|refine Qd ?_|refine Qe ?_|refine Qf ?_)|((with_reducible refine Qo ?_ ?_);focus rfl)|((with_reducible first|refine QT 6 (l:=?_) ?_ ?_|refine QF 6 (l:=?_) ?_ ?_);rotate_left 1;focus (simp only [Zu,Nat.reduceSub,Nat.reduceBEq];with_reducible rfl))|((with_reducible first|refine QS (cfg_ok 35) Tab.none (s':=?_) ?_ ?_|refine QC (b:=?_) ?_ ?_);rotate_left 1;focus ((with_reducible refine QW ?_);simp only [Zg,seval,if_true,if_false,reduceCtorEq,Nat.reduceEqDiff,i1,List.length_map];with_reducible rfl)))
   refine RunK.loop (β:=Nat) (γ:=Unit) (fun k => ⟨[(0,.c (.val (.sl 1 (f.map eL)))),(3,.c (.own 3 ((rootOn (f.take i)).length + k))),(4,.c (.val (.int i))),(5,.c (.val (.int k)))],[(3,.row 1 ((rootOn (f.take i) ++ (b.take k).map (· + 1)).map eI) true)]⟩) (fun k => k ≤ b.length) (fun k => b.length - k)
    (fun _ => ⟨[(0,.c (.val (.sl 1 (f.map eL)))),(3,.c (.own 3 ((rootOn (f.take i)).length + b.length))),(4,.c (.val (.int i)))],[(3,.row 1 ((rootOn (f.take (i + 1))).map eI) true)]⟩) (fun _ => True) 0 (Nat.zero_le _) ?_ ?_ ?_
   ·(repeat' (first|with_reducible refine Qn|((with_reducible refine Qr ?_ ?_);focus (first|with_reducible rfl|(simp only [Zz,Nat.reduceBEq,List.take_zero,List.map_nil,List.append_nil];done)|rfl))|((with_reducible refine Qj (o':=?_) ?_ ?_ ?_);rotate_left 1;focus rfl)|((with_reducible refine Qw ?_ ?_);(focus (first|with_reducible rfl|(simp only [Zv,List.take_zero,List.map_nil,List.append_nil];done)));focus (first|exact id|exact (fun h => nomatch h)|exact (fun _ => rfl)))))
   ·intro k hk
    have hk:k ≤ b.length:=hk
    have hwk:=w64_succ (n:=k) (by omega)
    have hlen:((rootOn (f.take i) ++ (b.take k).map (· + 1)).map eI).length = (rootOn (f.take i)).length + k:=by
     rw [List.length_map,List.length_append,List.length_map,List.length_take];omega
    by_cases hkb:k < b.length
    ·have k1:((k:Int) < (b.length:Int)) = True:=eq_true (by omega)
     have k2:((0:Int) ≤ (k:Int)) = True:=eq_true (by omega)
     obtain ⟨x,hx⟩:∃ x,x = b[k]:=⟨_,rfl⟩
     have hxb:=hbs b[k] (List.getElem_mem _)
     rw [← hx] at hxb
     have hgx:(b.map eI)[k]? = some [.int x]:=by rw [map_get hkb,hx];rfl
     have hwx:=w64_eq (n:=x + 1) (by omega)
     have q1:=big_le (n:=(rootOn (f.take i)).length + k + 1) (by omega)
     have q2:=big_mul (n:=(rootOn (f.take i)).length + k + 1) (c:=8) (by omega) (by omega)
     have htk:(b.take (k + 1)).map (· + 1) = (b.take k).map (· + 1) ++ [x + 1]:=by rw [List.take_succ_eq_append_getElem hkb,List.map_append,hx];rfl
     have hlf:(f.map eL).length = f.length:=List.length_map _
     have hlb:(b.map eI).length = b.length:=List.length_map _
     repeat' (first|with_reducible (first|refine Q1 ?_|refine Q2 ?_|refine Q3 ?_|refine Q4 ?_|refine Q5 ?_|refine Q6 ?_|refine Q7 ?_|refine Q8 ?_|refine Q9 ?_|refine Qa ?_|refine Qb ?_|refine Qc ?_|refine Qd ?_|refine Qe ?_|refine Qf ?_)|((with_reducible refine Qo ?_ ?_);focus rfl)|((with_reducible first|refine QT 6 (l:=?_) ?_ ?_|refine QF 6 (l:=?_) ?_ ?_);rotate_left 1;focus (simp only [Zu,Nat.reduceSub,Nat.reduceBEq];with_reducible rfl))|((with_reducible first|refine QS (cfg_ok 35) Tab.none (s':=?_) ?_ ?_|refine QC (b:=?_) ?_ ?_);rotate_left 1;focus ((with_reducible refine QW ?_);simp only [Zg,seval,if_true,if_false,reduceCtorEq,Nat.reduceEqDiff,i1,i2,k1,k2,hg,hgx,hwk,hwx,q1,q2,hlen,hlf,hlb,Int.toNat_natCast];with_reducible rfl)))
     refine roundK.on (k + 1) ⟨hkb,by omega⟩ ?_
     rw [htk,← List.append_assoc]
     (repeat' (first|with_reducible refine Qn|((with_reducible refine Qr ?_ ?_);focus (first|with_reducible rfl|(simp only [Zz,Nat.reduceBEq,eI];done)|rfl))|((with_reducible refine Qj (o':=?_) ?_ ?_ ?_);rotate_left 1;focus rfl)|((with_reducible refine Qw ?_ ?_);(focus (first|with_reducible rfl|(simp only [Zv,eI];done)));focus (first|exact id|exact (fun h => nomatch h)|exact (fun _ => rfl)))))
    ·have k1:((k:Int) < (b.length:Int)) = False:=eq_false (by omega)
     obtain rfl:k = b.length:=by omega
     have hlf:(f.map eL).length = f.length:=List.length_map _
     have hlb:(b.map eI).length = b.length:=List.length_map _
     rw [List.take_length,← hst]
     repeat' (first|with_reducible (first|refine Q1 ?_|refine Q2 ?_|refine Q3 ?_|refine Q4 ?_|refine Q5 ?_|refine Q6 ?_|refine Q7 ?_|refine Q8 ?_|refine Q9 ?_|refine Qa ?_|refine Qb ?_|refine Qc ?_|refine Qd ?_|refine Qe ?_|refine Qf ?_)|((with_reducible refine Qo ?_ ?_);focus rfl)|((with_reducible first|refine QT 6 (l:=?_) ?_ ?_|refine QF 6 (l:=?_) ?_ ?_);rotate_left 1;focus (simp only [Zu,Nat.reduceSub,Nat.reduceBEq];with_reducible rfl))|((with_reducible first|refine QS (cfg_ok 35) Tab.none (s':=?_) ?_ ?_|refine QC (b:=?_) ?_ ?_);rotate_left 1;focus ((with_reducible refine QW ?_);simp only [Zg,seval,if_true,if_false,reduceCtorEq,Nat.reduceEqDiff,i1,i2,k1,hg,hlf,hlb,Int.toNat_natCast];with_reducible rfl)))
     refine roundK.out () trivial ?_
     (repeat' (first|with_reducible refine Qn|((with_reducible refine Qr ?_ ?_);focus (first|with_reducible rfl|(simp only [Zz,Nat.reduceBEq];done)|rfl))|((with_reducible refine Qj (o':=?_) ?_ ?_ ?_);rotate_left 1;focus rfl)|((with_reducible refine Qw ?_ ?_);(focus (first|with_reducible rfl|(simp only [Zv];done)));focus (first|exact id|exact (fun h => nomatch h)|exact (fun _ => rfl)))))
   ·rintro _ _
    repeat' (first|with_reducible (first|refine Q1 ?_|refine Q2 ?_|refine Q3 ?_|refine Q4 ?_|refine Q5 ?_|refine Q6 ?_|refine Q7 ?_|refine Q8 ?_|refine Q9 ?_|refine Qa ?_|refine Qb ?_|refine Qc ?_|refine Qd ?_|refine Qe ?_|refine Qf ?_)|((with_reducible refine Qo ?_ ?_);focus rfl)|((with_reducible first|refine QT 6 (l:=?_) ?_ ?_|refine QF 6 (l:=?_) ?_ ?_);rotate_left 1;focus (simp only [Zu,Nat.reduceSub,Nat.reduceBEq];with_reducible rfl))|((with_reducible first|refine QS (cfg_ok 35) Tab.none (s':=?_) ?_ ?_|refine QC (b:=?_) ?_ ?_);rotate_left 1;focus ((with_reducible refine QW ?_);simp only [Zg,seval,if_true,if_false,reduceCtorEq,Nat.reduceEqDiff,hw];with_reducible rfl)))
    refine roundK.on (i + 1) ⟨h,by omega⟩ ?_
    have hl2:(rootOn (f.take (i + 1))).length = (rootOn (f.take i)).length + b.length:=by rw [hst,List.length_append,List.length_map]
    rw [hl2]
    (repeat' (first|with_reducible refine Qn|((with_reducible refine Qr ?_ ?_);focus (first|with_reducible rfl|(simp only [Zz,Nat.reduceBEq];done)|rfl))|((with_reducible refine Qj (o':=?_) ?_ ?_ ?_);rotate_left 1;focus rfl)|((with_reducible refine Qw ?_ ?_);(focus (first|with_reducible rfl|(simp only [Zv];done)));focus (first|exact id|exact (fun h => nomatch h)|exact (fun _ => rfl)))))
  ·have i1:((i:Int) < (f.length:Int)) = False:=eq_false (by omega)
   obtain rfl:i = f.length:=by omega
   rw [List.take_length]
   repeat' (first|with_reducible (first|refine Q1 ?_|refine Q2 ?_|refine Q3 ?_|refine Q4 ?_|refine Q5 ?_|refine Q6 ?_|refine Q7 ?_|refine Q8 ?_|refine Q9 ?_|refine Qa ?_|refine Qb ?_|refine Qc ?_|refine Qd ?_|refine Qe ?_|refine Qf ?_)|((with_reducible refine Qo ?_ ?_);focus rfl)|((with_reducible first|refine QT 6 (l:=?_) ?_ ?_|refine QF 6 (l:=?_) ?_ ?_);rotate_left 1;focus (simp only [Zu,Nat.reduceSub,Nat.reduceBEq];with_reducible rfl))|((with_reducible first|refine QS (cfg_ok 35) Tab.none (s':=?_) ?_ ?_|refine QC (b:=?_) ?_ ?_);rotate_left 1;focus ((with_reducible refine QW ?_);simp only [Zg,seval,if_true,if_false,reduceCtorEq,Nat.reduceEqDiff,i1,List.length_map];with_reducible rfl)))
   refine roundK.out () trivial ?_
   (repeat' (first|with_reducible refine Qn|((with_reducible refine Qr ?_ ?_);focus (first|with_reducible rfl|(simp only [Zz,Nat.reduceBEq];done)|rfl))|((with_reducible refine Qj (o':=?_) ?_ ?_ ?_);rotate_left 1;focus rfl)|((with_reducible refine Qw ?_ ?_);(focus (first|with_reducible rfl|(simp only [Zv];done)));focus (first|exact id|exact (fun h => nomatch h)|exact (fun _ => rfl)))))
 ·rintro _ _
  repeat' (first|with_reducible (first|refine Q1 ?_|refine Q2 ?_|refine Q3 ?_|refine Q4 ?_|refine Q5 ?_|refine Q6 ?_|refine Q7 ?_|refine Q8 ?_|refine Q9 ?_|refine Qa ?_|refine Qb ?_|refine Qc ?_|refine Qd ?_|refine Qe ?_|refine Qf ?_)|((with_reducible refine Qo ?_ ?_);focus rfl)|((with_reducible first|refine QT 6 (l:=?_) ?_ ?_|refine QF 6 (l:=?_) ?_ ?_);rotate_left 1;focus (simp only [Zu,Nat.reduceSub,Nat.reduceBEq];with_reducible rfl))|((with_reducible first|refine QS (cfg_ok 35) (Tab.none.at' 75 hca) (s':=?_) ?_ ?_|refine QC (b:=?_) ?_ ?_);rotate_left 1;focus ((with_reducible refine QW ?_);simp only [Zg,seval,if_true,if_false,reduceCtorEq,Nat.reduceEqDiff];with_reducible rfl)))
  (refine Ends.mk (by simp) (rs:=?_) (ks:=?_) hres hrts ?_ ?_ ?_;rotate_left 2;(focus (simp only [Ze,Zg,seval,if_true,if_false,reduceCtorEq,Nat.reduceEqDiff];with_reducible rfl));(focus simp);focus (first|with_reducible rfl|(simp only [Zv];done)))
theorem z10:((1:Int) == 0) = false:=rfl
theorem z00:((0:Int) == 0) = true:=rfl
theorem zm0:((-1:Int) == 0) = false:=rfl
end Go.Proofs.YtgngidchldajhaaGreat
namespace Go.Proofs.YtgngidchldajhaaGreat
open Go.RowKit
theorem lexC_step {α:Type} {c:α→α→Int} {f g:List α} {k:Nat} (h1:k < f.length) (h2:k < g.length):lexC c (f.drop k) (g.drop k) = if c f[k] g[k] = 0 then lexC c (f.drop (k + 1)) (g.drop (k + 1)) else c f[k] g[k]:=by
 rw [List.drop_eq_getElem_cons h1,List.drop_eq_getElem_cons h2];rfl
theorem lexC_endL {α:Type} {c:α→α→Int} {f g:List α} {k:Nat} (h1:¬ k < f.length) (h2:k < g.length):lexC c (f.drop k) (g.drop k) = -1:=by
 rw [List.drop_eq_nil_of_le (Nat.not_lt.1 h1),List.drop_eq_getElem_cons h2];rfl
theorem lexC_endR {α:Type} {c:α→α→Int} {f g:List α} {k:Nat} (h1:k < f.length) (h2:¬ k < g.length):lexC c (f.drop k) (g.drop k) = 1:=by
 rw [List.drop_eq_getElem_cons h1,List.drop_eq_nil_of_le (Nat.not_lt.1 h2)];rfl
theorem lexC_end0 {α:Type} {c:α→α→Int} {f g:List α} {k:Nat} (h1:¬ k < f.length) (h2:¬ k < g.length):lexC c (f.drop k) (g.drop k) = 0:=by
 rw [List.drop_eq_nil_of_le (Nat.not_lt.1 h1),List.drop_eq_nil_of_le (Nat.not_lt.1 h2)];rfl
set_option maxRecDepth 100000 in
set_option maxHeartbeats 2000000 in
theorem c_CompareFunc (v1 v2:Value) (f g:List (List Int)) (w:World) (h1:Rd (RS (RS RI)) w [v1] f) (h2:Rd (RS (RS RI)) w [v2] g) :
  Calls Tryz.prog 216 #[v1,v2,.func (.func 150) #[] #[]] w (RetS w (.int .i64 (lexC cmpT f g))):=by
 obtain ⟨oa,ca,L1⟩:=h1.lists
 obtain ⟨ob,cb,L2⟩:=h2.lists
 obtain rfl:=L1.val
 obtain rfl:=L2.val
 have m1:=L1.le;have m2:=L1.capLe;have m3:=L2.le;have m4:=L2.capLe
 unfold maxLen at m2 m4
 have HL1:=Lib.hid L1
 have HL2:=Lib.hid L2
 clear L1 L2 h1 h2
 go_enter Tryz.func216,Tryz.ntmps216
 go_wp2_with fail
 go_loop [13] (fun i => ∃ k:Nat,k ≤ f.length∧k ≤ g.length∧i = .int .i64 k∧lexC cmpT f g = lexC cmpT (f.drop k) (g.drop k)) (fun i => f.length - (intOf i).toNat)
 case atStart => exact ⟨0,Nat.zero_le _,Nat.zero_le _,rfl,by simp⟩
 case round =>
  obtain ⟨k,hk,hk2,rfl,he⟩:=hrel
  have He:=Lib.hid he
  clear he
  by_cases hlt:k < f.length
  ·obtain ⟨b1,o1,rfl,hb1,hc1⟩:=HL1.out.get hlt
   obtain ⟨oi,ci,g1,hrd1,q1,q2⟩:=hc1 k hlt
   clear hc1
   by_cases hlt2:k < g.length
   ·obtain ⟨b2,o2,rfl,hb2,hc2⟩:=HL2.out.get hlt2
    obtain ⟨oj,cj,g2,hrd2,q3,q4⟩:=hc2 k hlt2
    clear hc2
    have hs:=lexC_step (c:=cmpT) hlt hlt2
    by_cases h0:cmpT f[k] g[k] = 0
    ·rw [if_pos h0] at hs
     have hcall:=c_impl_compareTrees _ _ _ _ w hrd1 hrd2
     rw [h0] at hcall
     have HC:=Lib.hid hcall
     have Hs:=Lib.hid hs
     obtain ⟨x1,hx1⟩:∃ x,x = f[k].length:=⟨_,rfl⟩
     obtain ⟨x2,hx2⟩:∃ x,x = g[k].length:=⟨_,rfl⟩
     rw [← hx1] at g1 q1 HC
     rw [← hx2] at g2 q3 HC
     clear hs h0 hcall hrd1 hrd2 hx1 hx2
     go_wp2_with (go_at_call 150;refine HC.out.mono ?_;rintro e w' ⟨rfl,rfl⟩)
     go_round
     case rel => exact ⟨k + 1,by omega,by omega,by go_num,by rw [He.out,Hs.out]⟩
     case measure => simp [intOf];omega
    ·rw [if_neg h0] at hs
     have hcall:=c_impl_compareTrees _ _ _ _ w hrd1 hrd2
     have hb:(cmpT f[k] g[k] != 0) = true:=by simp [h0]
     obtain ⟨z,hz⟩:∃ z,z = cmpT f[k] g[k]:=⟨_,rfl⟩
     rw [← hz] at hcall hb hs
     have HC:=Lib.hid hcall
     have Hs:=Lib.hid hs
     obtain ⟨x1,hx1⟩:∃ x,x = f[k].length:=⟨_,rfl⟩
     obtain ⟨x2,hx2⟩:∃ x,x = g[k].length:=⟨_,rfl⟩
     rw [← hx1] at g1 q1 HC
     rw [← hx2] at g2 q3 HC
     clear hs h0 hcall hrd1 hrd2 hx1 hx2 hz
     go_wp2_with (go_at_call 150;refine HC.out.mono ?_;rintro e w' ⟨rfl,rfl⟩)
     go_ret
     exact ⟨by (rw [He.out,Hs.out] <;> rfl),rfl⟩
   ·have HE:=Lib.hid (lexC_endR (c:=cmpT) hlt hlt2)
    go_wp2_with fail
    go_ret
    exact ⟨by (rw [He.out,HE.out] <;> rfl),rfl⟩
  ·by_cases hlt2:k < g.length
   ·have HE:=Lib.hid (lexC_endL (c:=cmpT) hlt hlt2)
    go_wp2_with fail
    go_ret
    exact ⟨by (rw [He.out,HE.out] <;> rfl),rfl⟩
   ·have HE:=Lib.hid (lexC_end0 (c:=cmpT) hlt hlt2)
    go_wp2_with fail
    go_ret
    exact ⟨by (rw [He.out,HE.out] <;> rfl),rfl⟩
set_option maxRecDepth 100000 in
set_option maxHeartbeats 400000 in
theorem c_compareTrunks (v1 v2:Value) (f g:List (List Int)) (w:World) (h1:Rd (RS (RS RI)) w [v1] f) (h2:Rd (RS (RS RI)) w [v2] g) :
  Calls Tryz.prog 158 #[v1,v2] w (RetS w (.int .i64 (cmpN f g))):=by
 obtain ⟨oa,c1,e1,m1,m2⟩:=h1.val
 obtain ⟨ob,c2,e2,m3,m4⟩:=h2.val
 subst e1;subst e2
 unfold maxLen at m2 m4
 rw [cmpN_eq]
 by_cases hl:f.length = g.length
 ·have hlb:((f.length:Int) != (g.length:Int)) = false:=by simp [hl]
  have hcall:=c_CompareFunc _ _ _ _ w h1 h2
  rw [if_pos (by rw [hl])]
  have HC:=Lib.hid hcall
  clear hl hcall h1 h2
  go_enter Tryz.func158,Tryz.ntmps158
  go_wp2_with (go_at_call 216;refine HC.out.mono ?_;rintro e w' ⟨rfl,rfl⟩)
  go_ret
  exact ⟨rfl,rfl⟩
 ·have hlb:((f.length:Int) != (g.length:Int)) = true:=by simp;omega
  have hw:IntKind.i64.wrap ((f.length:Int) - (g.length:Int)) = (f.length:Int) - (g.length:Int):=IntWalk.i64_in _ (by omega)
  rw [if_neg (by omega)]
  clear h1 h2
  go_enter Tryz.func158,Tryz.ntmps158
  go_wp2_with fail
  go_ret
  exact ⟨rfl,rfl⟩
set_option maxRecDepth 100000 in
set_option maxHeartbeats 400000 in
theorem c_compareForests (v1 v2:Value) (f g:List (List Int)) (w:World) (h1:Rd (RS (RS RI)) w [v1] f) (h2:Rd (RS (RS RI)) w [v2] g) (hf:sumLen f ≤ 1000000000000000000) (hg:sumLen g ≤ 1000000000000000000) :
  Calls Tryz.prog 86 #[v1,v2] w (RetS w (.int .i64 (cmpF f g))):=by
 have hn1:=c_impl_nodesIn _ _ w h1
 have hn2:=c_impl_nodesIn _ _ w h2
 rw [nodesB_eq f hf] at hn1
 rw [nodesB_eq g hg] at hn2
 have ht:=c_compareTrunks _ _ _ _ w h1 h2
 rw [cmpF_N]
 obtain ⟨p,hp⟩:∃ p,p = sumLen f:=⟨_,rfl⟩
 obtain ⟨q,hq⟩:∃ q,q = sumLen g:=⟨_,rfl⟩
 rw [← hp] at hf hn1 ⊢
 rw [← hq] at hg hn2 ⊢
 have hw:IntKind.i64.wrap ((p:Int) - (q:Int)) = (p:Int) - (q:Int):=IntWalk.i64_in _ (by omega)
 obtain ⟨Rl,hR⟩:∃ R:Value→Int→Prop,∀ v n,R v n ↔ Calls Tryz.prog 124 #[v] w (RetS w (.int .i64 n)):=⟨_,fun _ _ => Iff.rfl⟩
 have r1:Rl v1 p:=(hR _ _).2 hn1
 have r2:Rl v2 q:=(hR _ _).2 hn2
 have HN:Hid (∀ v n,Rl v n→Calls Tryz.prog 124 #[v] w (RetS w (.int .i64 n))):=Lib.hid (fun v n => (hR v n).1)
 have H3:=Lib.hid ht
 clear hp hq h1 h2 hn1 hn2 ht hR
 by_cases hl:(p:Int) = q
 ·have hlb:(((p:Int) - (q:Int)) != 0) = false:=by rw [hl];simp
  rw [if_pos hl]
  clear hl
  go_enter Tryz.func86,Tryz.ntmps86
  go_wp2_with (first|(go_at_call 124;refine (HN.out _ _ (by assumption)).mono ?_;rintro e w' ⟨rfl,rfl⟩)|(go_at_call 158;refine H3.out.mono ?_;rintro e w' ⟨rfl,rfl⟩))
  go_ret
  exact ⟨rfl,rfl⟩
 ·have hlb:(((p:Int) - (q:Int)) != 0) = true:=by simp;omega
  rw [if_neg hl]
  clear hl
  go_enter Tryz.func86,Tryz.ntmps86
  go_wp2_with (go_at_call 124;refine (HN.out _ _ (by assumption)).mono ?_;rintro e w' ⟨rfl,rfl⟩)
  go_ret
  exact ⟨rfl,rfl⟩
theorem lexC_in64:∀ (f g:List (List Int)),(∀ t ∈ f,t.length ≤ maxLen)→(∀ t ∈ g,t.length ≤ maxLen)→In64 (lexC cmpT f g):=by
 intro f
 induction f with
 | nil => intro g _ _;cases g <;> (unfold lexC In64;omega)
 | cons x xs ih => intro g h3 h4;cases g with
  | nil => unfold lexC In64;omega
  | cons y bs =>
   unfold lexC
   split
   ·exact ih bs (fun t ht => h3 t (by simp [ht])) (fun t ht => h4 t (by simp [ht]))
   ·exact cmpT_in64 (h3 x (by simp)) (h4 y (by simp))
theorem cmpF_in64 {f g:List (List Int)} (hf:sumLen f ≤ 1000000000000000000) (hg:sumLen g ≤ 1000000000000000000) (h1:f.length ≤ maxLen) (h2:g.length ≤ maxLen) (h3:∀ t ∈ f,t.length ≤ maxLen) (h4:∀ t ∈ g,t.length ≤ maxLen):In64 (cmpF f g):=by
 rw [cmpF_N,cmpN_eq]
 unfold maxLen at h1 h2
 split
 ·split
  ·exact lexC_in64 f g h3 h4
  ·unfold In64;omega
 ·unfold In64;omega
end Go.Proofs.YtgngidchldajhaaGreat
namespace Go.Proofs.YtgngidchldajhaaGreat
abbrev Elt:=List (Int × List (List Int))
def canT (t:List Int):Bool:=lev8 t && decide (canon t = t)
def okT (f:List (List Int)) (i:Nat):Bool:=canT (f.getD i []) && (decide (i = 0) || decide (cmpT (f.getD (i - 1) []) (f.getD i []) ≤ 0))
def forB (f:List (List Int)):Bool:=decide (sumLen f ≤ 8) && (List.range f.length).all (okT f)
def okP (e:Elt) (i:Nat):Bool :=
 decide (1 ≤ (e.getD i (0,[])).1) && decide ((e.getD i (0,[])).1 < 10007) && forB (e.getD i (0,[])).2 && (decide (i = 0) || decide (cmpF (e.getD (i - 1) (0,[])).2 (e.getD i (0,[])).2 < 0))
def elB (e:Elt):Bool:=decide (e.length ≤ 300) && (List.range e.length).all (okP e)
theorem all_range {n:Nat} {p:Nat→Bool}:(List.range n).all p = true ↔ ∀ i < n,p i = true:=by
 rw [List.all_eq_true]
 exact ⟨fun h i hi => h i (List.mem_range.2 hi),fun h i hi => h i (List.mem_range.1 hi)⟩
theorem all_range_no {n i:Nat} {p:Nat→Bool} (hi:i < n) (h:p i = false):(List.range n).all p = false:=by
 rcases hq:(List.range n).all p with _|_
 ·rfl
 ·rw [all_range.1 hq i hi] at h;cases h
theorem adj_pairwise {α:Type} {r:α→α→Prop} (ht:∀ a b d,r a b→r b d→r a d):∀ {l:List α},(∀ i (h:i + 1 < l.length),r l[i] l[i + 1])→l.Pairwise r
 | [],_ => List.Pairwise.nil
 | [a],_ => List.pairwise_singleton _ _
 | a :: b :: l,h => by
  have ih:=adj_pairwise ht (l:=b :: l) (fun i hi => h (i + 1) (by simp at hi ⊢;omega))
  refine List.pairwise_cons.2 ⟨fun x hx => ?_,ih⟩
  have h0:r a b:=h 0 (by simp)
  rcases List.mem_cons.1 hx with rfl|hx
  ·exact h0
  ·exact ht a b x h0 ((List.pairwise_cons.1 ih).1 x hx)
theorem getD_at {α:Type} {l:List α} {d:α} {i:Nat} (h:i < l.length):l.getD i d = l[i]:=by
 rw [List.getD_eq_getElem?_getD,List.getElem?_eq_getElem h];rfl
theorem forB_spec {f:List (List Int)} (h:forB f = true):sumLen f ≤ 8∧(∀ t ∈ f,canT t = true)∧f.Pairwise fun a b => cmpT a b ≤ 0:=by
 unfold forB at h
 rw [Bool.and_eq_true,all_range] at h
 refine ⟨of_decide_eq_true h.1,fun t ht => ?_,adj_pairwise (fun a b d => cmpT_cmp.trans a b d) (fun i hi => ?_)⟩
 ·obtain ⟨i,hi,rfl⟩:=List.getElem_of_mem ht
  have:=h.2 i hi
  unfold okT at this
  rw [Bool.and_eq_true,getD_at hi] at this
  exact this.1
 ·have:=h.2 (i + 1) hi
  unfold okT at this
  rw [Bool.and_eq_true,Bool.or_eq_true,getD_at hi,Nat.add_sub_cancel,getD_at (show i < f.length by omega)] at this
  rcases this.2 with h1|h1
  ·have:=of_decide_eq_true h1;omega
  ·exact of_decide_eq_true h1
theorem elB_spec {e:Elt} (h:elB e = true):e.length ≤ 300∧NfS cmpF e∧SrtF e∧∀ p ∈ e,forB p.2 = true:=by
 unfold elB at h
 rw [Bool.and_eq_true,all_range] at h
 have hall:∀ p ∈ e,(1 ≤ p.1∧p.1 < 10007)∧forB p.2 = true:=fun p hp => by
  obtain ⟨i,hi,rfl⟩:=List.getElem_of_mem hp
  have:=h.2 i hi
  unfold okP at this
  rw [getD_at hi] at this
  simp only [Bool.and_eq_true,decide_eq_true_eq] at this
  exact ⟨this.1.1,this.1.2⟩
 refine ⟨of_decide_eq_true h.1,⟨adj_pairwise (r:=fun p q:Int × List (List Int) => cmpF p.2 q.2 < 0) (fun a b d h1 h2 => cmpF_cmp.lt_tr h1 h2) (fun i hi => ?_),fun p hp => (hall p hp).1⟩,fun p hp => (forB_spec (hall p hp).2).2.2,fun p hp => (hall p hp).2⟩
 have:=h.2 (i + 1) hi
 unfold okP at this
 rw [getD_at hi,Nat.add_sub_cancel,getD_at (show i < e.length by omega)] at this
 simp only [Bool.and_eq_true,Bool.or_eq_true,decide_eq_true_eq] at this
 rcases this.2 with h1|h1
 ·omega
 ·exact h1
theorem putS_skip {κ:Type} {c:κ→κ→Int} {k:Int} {x:κ} (hk:k ≠ 0) (M:List (Int × κ)):∀ {L:List (Int × κ)},(∀ q ∈ L,0 < c x q.2)→putS c (L ++ M) k x = L ++ putS c M k x
 | [],_ => rfl
 | (a,y) :: L,h => by
  have h0:0 < c x y:=h (a,y) (by simp)
  show putS c ((a,y) :: (L ++ M)) k x = _
  conv => lhs;unfold putS
  rw [if_neg hk,if_neg (by omega),if_neg (by omega),putS_skip hk M (fun q hq => h q (by simp [hq]))]
  rfl
theorem putS_zero {κ:Type} {c:κ→κ→Int} {x:κ} (L:List (Int × κ)):putS c L 0 x = L:=by
 cases L <;> simp [putS]
end Go.Proofs.YtgngidchldajhaaGreat
namespace Go.Proofs.YtgngidchldajhaaGreat
open Go.RowKit
theorem forB_lev {f:List (List Int)} (h:forB f = true):∀ b ∈ f,LevP b:=fun b hb => by
 have:=(forB_spec h).2.1 b hb
 unfold canT at this
 rw [Bool.and_eq_true] at this
 exact lev8_lev this.1
theorem forB_can {f:List (List Int)} (h:forB f = true):∀ b ∈ f,canon b = b:=fun b hb => by
 have:=(forB_spec h).2.1 b hb
 unfold canT at this
 rw [Bool.and_eq_true] at this
 exact of_decide_eq_true this.2
end Go.Proofs.YtgngidchldajhaaGreat

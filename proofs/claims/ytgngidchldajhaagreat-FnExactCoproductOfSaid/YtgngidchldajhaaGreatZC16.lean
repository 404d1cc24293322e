/- Lemmas (16). -/
import Derived.Test.YtgngidchldajhaaGreatZC7
import Derived.Test.YtgngidchldajhaaGreatZC12
import Derived.Test.YtgngidchldajhaaGreatZC14
import Derived.Test.YtgngidchldajhaaGreatZC15
set_option linter.unusedSimpArgs false
set_option linter.unusedVariables false
namespace Go.Proofs.YtgngidchldajhaaGreat
def Eqm (a b:Int):Prop:=∃ k,a = b + 10007 * k
theorem Eqm.refl (a:Int):Eqm a a:=⟨0,by omega⟩
theorem Eqm.of {a b:Int} (h:a = b):Eqm a b:=h ▸ Eqm.refl a
theorem Eqm.symm {a b:Int}:Eqm a b→Eqm b a:=fun ⟨k,h⟩ => ⟨-k,by omega⟩
theorem Eqm.trans {a b d:Int}:Eqm a b→Eqm b d→Eqm a d:=fun ⟨k,h⟩ ⟨m,h'⟩ => ⟨k + m,by omega⟩
theorem Eqm.add {a b d e:Int}:Eqm a b→Eqm d e→Eqm (a + d) (b + e):=fun ⟨k,h⟩ ⟨m,h'⟩ => ⟨k + m,by omega⟩
theorem Eqm.mulL {a b:Int} (d:Int):Eqm a b→Eqm (d * a) (d * b):=fun ⟨k,h⟩ => ⟨d * k,by rw [h,Int.mul_add,Int.mul_left_comm]⟩
theorem Eqm.mulR {a b:Int} (d:Int):Eqm a b→Eqm (a * d) (b * d):=fun h => by rw [Int.mul_comm a,Int.mul_comm b];exact h.mulL d
theorem Eqm.mul {a b d e:Int} (h:Eqm a b) (h':Eqm d e):Eqm (a * d) (b * e):=(h.mulR d).trans (h'.mulL b)
section
variable {κ:Type}
variable {c:κ→κ→Int} (hc:Cmp c)
include hc
omit hc
theorem addS_memL:∀ (M L:List (Int × κ)) {q:Int × κ},q ∈ addS c L M→(∃ p ∈ L,p.2 = q.2) ∨ ∃ p ∈ M,p.2 = q.2
 | [],L,q,h => .inl ⟨q,h,rfl⟩
 | r :: M,L,q,h => by
  rcases addS_memL M (putS c L r.1 r.2) h with ⟨p,h1,h2⟩|⟨p,h1,h2⟩
  ·rcases putS_mem L r.1 r.2 h1 with h3|⟨p',h3,h4⟩
   ·exact .inr ⟨r,by simp,by rw [← h2,h3]⟩
   ·exact .inl ⟨p',h3,by rw [h4,h2]⟩
  ·exact .inr ⟨p,by simp [h1],h2⟩
theorem sumS_mem {M:List (Int × κ)} {q:Int × κ} (h:q ∈ sumS c M):∃ p ∈ M,p.2 = q.2:=by
 rcases addS_memL M [] h with ⟨p,h1,_⟩|h
 ·cases h1
 ·exact h
end
end Go.Proofs.YtgngidchldajhaaGreat
namespace Go.Proofs.YtgngidchldajhaaGreat
open Go.RowKit
def brOf (t:List Int):List (List Int) × Int:=if lev8 t = true then (forest (brs (canon t)),0) else ([],1)
end Go.Proofs.YtgngidchldajhaaGreat
namespace Go.Proofs.YtgngidchldajhaaGreat
open Go.RowKit
section
variable {κ:Type} {c:κ→κ→Int} (hc:Cmp c)
include hc
end
def wF (F:Spl→Int) (f:List (List Int)):Int:=((prodS (f.map split)).map fun s => F (nrmS s)).sum
def OkF (g:List (List Int)):Prop:=(∀ t ∈ g,LevP t∧canon t = t)∧g.Pairwise fun a b => cmpT a b ≤ 0
theorem copP_key {p:Int × List (List Int)} (h:forB p.2 = true) {q:Int × Spl} (hq:q ∈ copP p):OkF q.2.1∧OkF q.2.2∧sumLen q.2.1 + sumLen q.2.2 ≤ 8:=by
 unfold copP at hq
 obtain ⟨z,hz,rfl⟩:=List.mem_map.1 hq
 obtain ⟨_,_,k⟩:=gath_good (prod_good (forB_lev h)) z hz
 obtain ⟨s,hs,e⟩:=List.mem_map.1 ((gathS_is _).key z hz)
 have h8:=(forB_spec h).1
 have e1:z.1.1 = sortC cmpT s.1:=by rw [← e];rfl
 have e2:z.1.2 = sortC cmpT s.2:=by rw [← e];rfl
 refine ⟨⟨fun t ht => k.1 t (by simp only [List.mem_append];exact .inl ht),?_⟩,⟨fun t ht => k.1 t (by simp only [List.mem_append];exact .inr ht),?_⟩,by have:=k.2;simp only;omega⟩
 ·simp only;rw [e1];exact sortC_sorted cmpT_cmp _
 ·simp only;rw [e2];exact sortC_sorted cmpT_cmp _
theorem cop_key {e:Elt} (h:elB e = true) {q:Int × Spl} (hq:q ∈ sumS cmpTe (copM e)):OkF q.2.1∧OkF q.2.2∧sumLen q.2.1 + sumLen q.2.2 ≤ 8:=by
 obtain ⟨p,hp,e1⟩:=sumS_mem hq
 unfold copM at hp
 obtain ⟨r,hr,hp⟩:=List.mem_flatMap.1 hp
 rw [← e1]
 exact copP_key ((elB_spec h).2.2.2 r hr) hp
structure KoF (e:Elt) (list:List (Int × Spl)) (r:Elt) (whole:List (Int × Spl)):Prop where
 rl:r.length = e.length
 wl:whole.length = list.length + r.length
 all:∀ w ∈ whole,(w.2.2 = []∧∃ q ∈ r,q.1 = w.1∧q.2 = w.2.1) ∨ (∃ T,w.2.2 = [T]∧lev8 T = true∧∃ q ∈ list,q.1 = w.1∧q.2.1 = w.2.1∧q.2.2 = (brOf T).1)
end Go.Proofs.YtgngidchldajhaaGreat
namespace Go.Proofs.YtgngidchldajhaaGreat
open Go.RowKit
theorem cnt_T_le:∀ (L:List (Int × Spl)),(∀ z ∈ L,cnt_II z.2.1 + cnt_II z.2.2 ≤ 16)→cnt_T L ≤ 17 * L.length
 | [],_ => by simp [cnt_T]
 | z :: L,h => by
  have h1:=h z (by simp)
  have h2:=cnt_T_le L (fun y hy => h y (by simp [hy]))
  unfold cnt_T
  rw [List.length_cons,Nat.mul_succ];omega
theorem copOf_cnt (e:Elt):cnt_T (copOf e).1 ≤ 1048576:=by
 unfold copOf
 split
 ·rename_i h
  split
  ·rename_i h6
   have:=cnt_T_le _ (fun z hz => by have:=(cop_key h hz).2.2;unfold cnt_II;omega)
   show cnt_T (sumS cmpTe (copM e)) ≤ _;omega
  ·simp [cnt_T]
 ·simp [cnt_T]
theorem k_impl_CoproductOf (v:Value) (e:Elt) (w:World) (h:Rd (RS RPart) w [v] e) (hz:szP e):Calls Tryz.prog 35 #[v] w (RetOC (RS RTensor) w (copOf e).1 (copOf e).2) :=
 AFn.oi encTe (a_impl_CoproductOf e hz) (args1 (arg_P h))
theorem k_spec_CoproductOf (v:Value) (e:Elt) (w:World) (h:Rd (RS RPart) w [v] e) (hz:szP e):Calls Tryz.prog 33 #[v] w (RetGI (RS RTensor) w (copOf e).1 (copOf e).2):=by
 obtain ⟨r,hr,hb⟩:=a_spec_CoproductOf e hz
 exact AFn.gi encTe hr hb (args1 (arg_P h))
end Go.Proofs.YtgngidchldajhaaGreat
namespace Go.Proofs.YtgngidchldajhaaGreat
open Go.RowKit
set_option maxHeartbeats 1000000 in
theorem walk_FnExactCoproductOf (v0:Value) (x0:List (Int × List (List Int))) (w:World) (h0:Rd (RS RPart) w [v0] x0):Calls Tryz.prog 5 #[v0] w (RetV w (.bool true)):=by
 go_enter Tryz.func5,Tryz.ntmps5
 go_wp2_with fail
 refine (sz_P _ x0 1048576 _ h0 (by omega) (by omega)).mono ?_
 rintro e w1 ⟨r1,rfl,hr1,B1⟩
 have s1:=B1.size
 have BB:=B1.mono (B':=w.heap.size) (by omega)
 rcases hr1 with ⟨n1,z0⟩|⟨n1,n1b,z0⟩
 ·go_wp2_with fail
  go_ret
  exact ⟨rfl,BB⟩
 go_wp2_with fail
 refine (to_P _ x0 _ (h0.below BB (Nat.le_refl _)) z0).mono ?_
 rintro e w2 ⟨u2,rfl,o2,B2⟩
 have s2:=B2.size
 replace BB:=BB.trans (B2.mono (B':=w.heap.size) (by omega))
 go_wp2_with fail
 refine (k_spec_CoproductOf _ x0 _ o2.rd z0).mono ?_
 rintro e w3 ⟨u3,rfl,o3,B3⟩
 have s3:=B3.size
 replace o2:=o2.below B3 (by omega)
 replace BB:=BB.trans (B3.mono (B':=w.heap.size) (by omega))
 go_wp2_with fail
 refine (to_P _ x0 _ (h0.below BB (Nat.le_refl _)) z0).mono ?_
 rintro e w4 ⟨u4,rfl,o4,B4⟩
 have s4:=B4.size
 replace o2:=o2.below B4 (by omega)
 replace o3:=o3.below B4 (by omega)
 replace BB:=BB.trans (B4.mono (B':=w.heap.size) (by omega))
 go_wp2_with fail
 refine (k_impl_CoproductOf _ x0 _ o4.rd z0).mono ?_
 rintro e w5 ⟨u5,rfl,o5,B5⟩
 have s5:=B5.size
 replace o2:=o2.below B5 (by omega)
 replace o3:=o3.below B5 (by omega)
 replace o4:=o4.below B5 (by omega)
 replace BB:=BB.trans (B5.mono (B':=w.heap.size) (by omega))
 go_wp2_with fail
 refine (eqv_T _ _ (copOf x0).1 _ o5.rd o3.rd).mono ?_
 rintro e w6 ⟨rfl,B6⟩
 have s6:=B6.size
 replace o2:=o2.below B6 (by omega)
 replace o3:=o3.below B6 (by omega)
 replace o4:=o4.below B6 (by omega)
 replace o5:=o5.below B6 (by omega)
 replace BB:=BB.trans (B6.mono (B':=w.heap.size) (by omega))
 go_wp2_with fail
 refine (to_P _ x0 _ (h0.below BB (Nat.le_refl _)) z0).mono ?_
 rintro e w7 ⟨u7,rfl,o7,B7⟩
 have s7:=B7.size
 replace o2:=o2.below B7 (by omega)
 replace o3:=o3.below B7 (by omega)
 replace o4:=o4.below B7 (by omega)
 replace o5:=o5.below B7 (by omega)
 replace BB:=BB.trans (B7.mono (B':=w.heap.size) (by omega))
 go_wp2_with fail
 refine (eqv_P _ _ x0 _ o4.rd o7.rd).mono ?_
 rintro e w8 ⟨rfl,B8⟩
 have s8:=B8.size
 replace o2:=o2.below B8 (by omega)
 replace o3:=o3.below B8 (by omega)
 replace o4:=o4.below B8 (by omega)
 replace o5:=o5.below B8 (by omega)
 replace o7:=o7.below B8 (by omega)
 replace BB:=BB.trans (B8.mono (B':=w.heap.size) (by omega))
 go_wp2_with fail
 have p9:=cntb_P x0 z0
 refine (mark_P _ x0 _ _ 1 _ o4 (by omega) (by omega)).mono ?_
 rintro e w9 ⟨rfl,o4n,B9⟩
 have s9:=B9.size
 replace o2:=o2.apart B9 (by omega)
 replace o3:=o3.apart B9 (by omega)
 replace o5:=o5.apart B9 (by omega)
 replace o7:=o7.apart B9 (by omega)
 replace o4:=o4n
 clear o4n
 replace BB:=BB.trans (B9.below (B:=w.heap.size) (by omega) (by omega))
 go_wp2_with fail
 refine (eqv_T _ _ (copOf x0).1 _ o5.rd o3.rd).mono ?_
 rintro e w10 ⟨rfl,B10⟩
 have s10:=B10.size
 replace o2:=o2.below B10 (by omega)
 replace o3:=o3.below B10 (by omega)
 replace o4:=o4.below B10 (by omega)
 replace o5:=o5.below B10 (by omega)
 replace o7:=o7.below B10 (by omega)
 replace BB:=BB.trans (B10.mono (B':=w.heap.size) (by omega))
 go_wp2_with fail
 have p11:=copOf_cnt x0
 refine (mark_T _ (copOf x0).1 _ _ 1 _ o5 (by omega) (by omega)).mono ?_
 rintro e w11 ⟨rfl,o5n,B11⟩
 have s11:=B11.size
 replace o2:=o2.apart B11 (by omega)
 replace o3:=o3.apart B11 (by omega)
 replace o4:=o4.apart B11 (by omega)
 replace o7:=o7.apart B11 (by omega)
 replace o5:=o5n
 clear o5n
 replace BB:=BB.trans (B11.below (B:=w.heap.size) (by omega) (by omega))
 go_wp2_with fail
 refine (held_T _ (copOf x0).1 1 _ o5.rd (by omega) (by omega)).mono ?_
 rintro e w12 ⟨rfl,B12⟩
 have s12:=B12.size
 replace o2:=o2.below B12 (by omega)
 replace o3:=o3.below B12 (by omega)
 replace o4:=o4.below B12 (by omega)
 replace o5:=o5.below B12 (by omega)
 replace o7:=o7.below B12 (by omega)
 replace BB:=BB.trans (B12.mono (B':=w.heap.size) (by omega))
 go_wp2_with fail
 refine (to_P _ x0 _ (h0.below BB (Nat.le_refl _)) z0).mono ?_
 rintro e w13 ⟨u13,rfl,o13,B13⟩
 have s13:=B13.size
 replace o2:=o2.below B13 (by omega)
 replace o3:=o3.below B13 (by omega)
 replace o4:=o4.below B13 (by omega)
 replace o5:=o5.below B13 (by omega)
 replace o7:=o7.below B13 (by omega)
 replace BB:=BB.trans (B13.mono (B':=w.heap.size) (by omega))
 go_wp2_with fail
 refine (k_impl_CoproductOf _ x0 _ o13.rd z0).mono ?_
 rintro e w14 ⟨u14,rfl,o14,B14⟩
 have s14:=B14.size
 replace o2:=o2.below B14 (by omega)
 replace o3:=o3.below B14 (by omega)
 replace o4:=o4.below B14 (by omega)
 replace o5:=o5.below B14 (by omega)
 replace o7:=o7.below B14 (by omega)
 replace o13:=o13.below B14 (by omega)
 replace BB:=BB.trans (B14.mono (B':=w.heap.size) (by omega))
 go_wp2_with fail
 refine (eqv_T _ _ (copOf x0).1 _ o14.rd o3.rd).mono ?_
 rintro e w15 ⟨rfl,B15⟩
 have s15:=B15.size
 replace o2:=o2.below B15 (by omega)
 replace o3:=o3.below B15 (by omega)
 replace o4:=o4.below B15 (by omega)
 replace o5:=o5.below B15 (by omega)
 replace o7:=o7.below B15 (by omega)
 replace o13:=o13.below B15 (by omega)
 replace o14:=o14.below B15 (by omega)
 replace BB:=BB.trans (B15.mono (B':=w.heap.size) (by omega))
 go_wp2_with fail
 refine (held_T _ (copOf x0).1 1 _ o5.rd (by omega) (by omega)).mono ?_
 rintro e w16 ⟨rfl,B16⟩
 have s16:=B16.size
 replace o2:=o2.below B16 (by omega)
 replace o3:=o3.below B16 (by omega)
 replace o4:=o4.below B16 (by omega)
 replace o5:=o5.below B16 (by omega)
 replace o7:=o7.below B16 (by omega)
 replace o13:=o13.below B16 (by omega)
 replace o14:=o14.below B16 (by omega)
 replace BB:=BB.trans (B16.mono (B':=w.heap.size) (by omega))
 go_wp2_with fail
 go_ret
 exact ⟨rfl,BB⟩
end Go.Proofs.YtgngidchldajhaaGreat

/- Lemmas (11). -/
import Derived.Laws.Concat
import Derived.Laws.Entries
import Derived.Laws.Small
import Derived.Laws.Strings
import Derived.Laws.StructEq
import Derived.Lib.AppendZeros
import Derived.Lib.OthersKept
import Derived.Test.YtedgfkpfhonlpaaGreatZT0
import Derived.Test.YtedgfkpfhonlpaaGreatZT1
import Derived.Test.YtedgfkpfhonlpaaGreatZT4
import Derived.Test.YtedgfkpfhonlpaaGreatZT5
import Derived.Test.YtedgfkpfhonlpaaGreatZT6
import Derived.Test.YtedgfkpfhonlpaaGreatZT7
import Derived.Test.YtedgfkpfhonlpaaGreatZT8
import Derived.Test.YtedgfkpfhonlpaaGreatZT9
import Derived.Test.YtedgfkpfhonlpaaGreatZT10
set_option maxHeartbeats 16000000
set_option maxRecDepth 100000
set_option linter.unusedSimpArgs false
set_option linter.unusedVariables false
namespace Go.Proofs.YtedgfkpfhonlpaaGreat
open Go.RowKit
section
theorem c_copyCheck_used (b:Nat) (w:World) (h0:w.cell? ⟨b,0,none⟩ = some (.pointer (some ⟨b,0,none⟩))) :
  Calls Tryz.prog 229 #[.pointer (some ⟨b,0,none⟩)] w fun e w' => e = .returned (.tuple #[])∧w' = w:=by
 go_enter Tryz.func229,Tryz.ntmps229
 go_wp2
 rw [Lib.run_neq_ptr_same (P:=Tryz.prog) w (tp:=191) (te:=193) _ rfl rfl]
 go_wp2
 go_end0
 exact ⟨rfl,rfl⟩
theorem c_copyCheck_fresh (b:Nat) (w:World) (h0:w.cell? ⟨b,0,none⟩ = some (.pointer none)) (hsh:w.shape? b = some (193,2)) (hfz:w.frozen? ⟨b,0,none⟩ = false) :
  Calls Tryz.prog 229 #[.pointer (some ⟨b,0,none⟩)] w fun e w' => e = .returned (.tuple #[])∧w' = w.setCell ⟨b,0,none⟩ (.pointer (some ⟨b,0,none⟩)):=by
 go_enter Tryz.func229,Tryz.ntmps229
 go_wp2
 rw [Lib.run_to_unsafe (P:=Tryz.prog) w (src:=191) (dst:=246) (t:=193) ⟨b,0,none⟩ rfl rfl rfl (by decide) hsh (Nat.zero_lt_succ 1)]
 simp only [Result.andThen]
 rw [Oper.upon_value]
 go_wp2
 rw [run_callFunc_extern (f:=264) rfl (by kernel_rfl) (by kernel_rfl) (by kernel_rfl) (e:=Extern.AbiNoEscape.same) (by kernel_rfl)]
 rw [Lib.run_noEscape]
 simp only [Result.andThen]
 rw [Oper.upon_value]
 go_wp2
 rw [Lib.run_from_unsafe (P:=Tryz.prog) w (src:=246) (dst:=191) (u:=193) ⟨b,0,none⟩ rfl rfl rfl hsh (by kernel_rfl)]
 simp only [Result.andThen]
 rw [Oper.upon_value]
 go_wp2
 go_end0
 exact ⟨rfl,rfl⟩
def BldW (B b lo hi:Nat) (bs:List Value) (w w':World):Prop :=
 yK 193 5 B b lo hi (.pointer (some ⟨b,0,none⟩)) bs w'∧Below B w w'∧BKept b lo hi w w'
theorem yK.used {T e:TypeId} {B b lo hi:Nat} {p:Value} {bs:List Value} {w:World} (h:yK T e B b lo hi p bs w) (q:Value):yK T e B b lo hi q bs (w.setCell ⟨b,0,none⟩ q):=by
 obtain ⟨hB,v,hb,hown,hne,h5⟩:=h
 refine ⟨hB,v,?_,?_,hne,h5⟩
 ·simp [World.setCell,Array.getElem?_modify,hb]
 ·refine hown.kept (row:=some b) ⟨rfl,rfl,rfl,by simp [World.setCell],fun k _ hk => Below.heap_setCell _ _ _ _ (fun e => hk (by simp [e]))⟩ ?_
  exact Or.inr hne
theorem c_copyCheck (B b lo hi:Nat) (p:Value) (bs:List Value) (w:World) (hp:p = .pointer none ∨ p = .pointer (some ⟨b,0,none⟩)) (h:yK 193 5 B b lo hi p bs w) :
  Calls Tryz.prog 229 #[.pointer (some ⟨b,0,none⟩)] w fun e w' => e = .returned (.tuple #[])∧BldW B b lo hi bs w w':=by
 rcases hp with rfl|rfl
 ·refine (c_copyCheck_fresh b w h.toF.cell0 h.toF.shape h.toF.frozen0).mono ?_
  rintro e w' ⟨rfl,rfl⟩
  exact ⟨rfl,h.used _,(Below.refl B w).setCell (p:=⟨b,0,none⟩) h.1 _,by simp [World.setCell],fun k _ _ _ hk => Below.heap_setCell _ _ _ _ hk⟩
 ·refine (c_copyCheck_used b w h.toF.cell0).mono ?_
  rintro e w' ⟨rfl,rfl⟩
  exact ⟨rfl,h,Below.refl B _,Nat.le_refl _,fun _ _ _ _ _ => rfl⟩
theorem jU0 (B b lo hi:Nat) (p:Value) (bs:List Value) (s:ByteArray) (w:World) (hp:p = .pointer none ∨ p = .pointer (some ⟨b,0,none⟩)) (h:yK 193 5 B b lo hi p bs w)
  (hlen:bs.length + s.size ≤ 140737488355328) (hBw:B ≤ w.heap.size) (hhi:hi ≤ w.heap.size) :
  Calls Tryz.prog 184 #[.pointer (some ⟨b,0,none⟩),.string s] w fun e w' => e = .returned (.tuple #[.int .i64 s.size,.nilIface])∧BldW B b lo hi (bs ++ Lib.strCells s) w w':=by
 have hcc:=c_copyCheck B b lo hi p bs w hp h
 clear h hp
 go_enter Tryz.func184,Tryz.ntmps184
 go_wp2_with (go_at_call 229;refine hcc.mono ?_)
 rintro e w1 ⟨rfl,h1,hb1,hk1⟩
 obtain ⟨hB,v,hbk,hown,hne,hoff⟩:=h1
 have c0:w1.cell? ⟨b,0,none⟩ = some (.pointer (some ⟨b,0,none⟩)):=by rw [Lib.cell_of_heap hbk];rfl
 have c1:w1.cell? ⟨b,1,none⟩ = some v:=by rw [Lib.cell_of_heap hbk];rfl
 go_wp2_with (at_builtin;refine wpList_append_blk (P:=Tryz.prog) rfl _ _ 22 9 rfl B 5 _ rfl rfl rfl rfl rfl rfl _ _ _ rfl hown s rfl ?c3 ?c4 ?c5 ?_)
 case c3 => unfold maxLen;omega
 case c4 => omega
 case c5 => have:=hb1.size;omega
 intro v' w2 hown' hgrow hblk
 have hlt:b < w1.heap.size:=(Array.getElem?_eq_some_iff.1 hbk).1
 have hb2:w2.heap[b]? = some (.cells #[.pointer (some ⟨b,0,none⟩),v] 193 (0,0)):=by
  rw [hgrow.block b hlt (fun e => hne e.symm)]
  exact hbk
 have d0:w2.cell? ⟨b,0,none⟩ = some (.pointer (some ⟨b,0,none⟩)):=by rw [Lib.cell_of_heap hb2];rfl
 have d1:w2.cell? ⟨b,1,none⟩ = some v:=by rw [Lib.cell_of_heap hb2];rfl
 have f1:w2.frozen? ⟨b,1,none⟩ = false:=Lib.frozen_of_heap hb2 1
 obtain ⟨ao,n',cap,rfl⟩:∃ ao n' cap,v' = .slice ao n' cap:=by
  rcases hown'.2 with ⟨hv,_⟩|⟨g,cap,cur,fz,hv,_⟩
  ·exact ⟨_,_,_,hv⟩
  ·exact ⟨_,_,_,hv⟩
 go_wp2
 go_ret2
 have hs1:=hb1.size
 have hput:=Lib.BuilderAtF.put (p:=.pointer (some ⟨b,0,none⟩)) (T:=193) (e:=5) hB hb2 (bs':=bs ++ Lib.strCells s) (by simpa [Lib.strCells_length] using hown') (by decide)
 refine ⟨rfl,?_,(hb1.grown hgrow (by omega) (fun k hk => (hown.lt k hk).1)).setCell (p:=⟨b,1,none⟩) hB _,?_,?_⟩
 ·obtain ⟨q1,v2,q2,q3,q4⟩:=hput
  refine ⟨q1,v2,q2,q3,q4,?_⟩
  have hv2:v2 = .slice ao n' cap:=by
   have h3:(w2.setCell ⟨b,1,none⟩ (.slice ao n' cap)).heap[b]? = some (.cells #[.pointer (some ⟨b,0,none⟩),.slice ao n' cap] 193 (0,0)):=by
    simp [World.setCell,Array.getElem?_modify,hb2]
   rw [h3] at q2
   simpa using q2.symm
  subst hv2
  intro k hk
  rcases hblk with h3|⟨k',h3,h4⟩
  ·exact hoff k (h3 ▸ hk)
  ·rw [h3] at hk
   cases hk
   right;omega
 ·have:=hgrow.size
  have:=hk1.1
  simp only [World.setCell,Array.size_modify]
  omega
 ·intro k k1 k2 k3 k4
  rw [Below.heap_setCell _ _ _ _ k4,hgrow.block k (by omega) (fun e => by have:=hoff k e.symm;omega)]
  exact hk1.2 k k1 k2 k3 k4
theorem c_BuilderString (B b:Nat) (p:Value) (l:List UInt8) (w:World) (hAt:Lib.BuilderAtF 193 5 B b p (Lib.byteCells l) w) (h0:l ≠ []) :
  Calls Tryz.prog 185 #[.pointer (some ⟨b,0,none⟩)] w fun e w' => e = .returned (.string ⟨l.toArray⟩)∧Below B w w':=by
 obtain ⟨hB,v,hbk,hown,hne⟩:=hAt
 have hl0:l.length ≠ 0:=by simpa using h0
 rw [Lib.byteCells_length] at hown
 obtain ⟨g,cap,cur,fz,rfl,hbg,hg,hfz,hnc,hcm,hcs,htake⟩:∃ g cap cur fz,v = .slice (some ⟨g,0,none⟩) l.length cap∧B ≤ g∧w.heap[g]? = some (.cells cur 5 fz)∧fz.2 ≤ l.length * 1∧l.length ≤ cap∧cap ≤ maxLen∧cur.size = cap * 1∧cur.toList.take (l.length * 1) = Lib.byteCells l:=by
  rcases hown.2 with ⟨_,hz⟩|⟨g,cap,cur,fz,hv,r⟩
  ·exact absurd hz hl0
  ·exact ⟨g,cap,cur,fz,hv,r⟩
 have c1:w.drew.cell? ⟨b,1,none⟩ = some (.slice (some ⟨g,0,none⟩) l.length cap):=by
  have:w.drew.heap[b]? = some (.cells #[p,.slice (some ⟨g,0,none⟩) l.length cap] 193 (0,0)):=hbk
  rw [Lib.cell_of_heap this];rfl
 have hSD:(Builtin.unsafeSliceData_ #[22] 224 #[.slice (some ⟨g,0,none⟩) l.length cap]).run Tryz.prog w.drew = .ok (.pointer (some ⟨g,0,none⟩)) w.drew :=
  Lib.run_unsafeSliceData_row _ _ _ _ _ _ (by omega)
 have hUS:(Builtin.unsafeString_ #[224,3] 9 #[.pointer (some ⟨g,0,none⟩),.int .i64 l.length]).run Tryz.prog w.drew = .ok (.string ⟨l.toArray⟩) (w.drew.freeze ⟨g,0,none⟩ l.length):=by
  refine Lib.run_unsafeString_row w.drew 224 3 9 5 rfl rfl g cur.size (by have hg':w.drew.heap[g]? = some (.cells cur 5 fz):=hg;simp [World.shape?,hg']) l h0 (by omega) (by unfold maxLen at hcm;omega) ?_
  intro j x hx
  have:=hown.cells (g:=g) rfl j (.int .u8 x.toNat) (by simp [Lib.byteCells,hx])
  exact this
 have mixed:Tryz.prog.follows Departure.mixedOrders = true:=by kernel_rfl
 go_enter Tryz.func185,Tryz.ntmps185
 go_wp2
 go_region_o
 all_goals (go_wp2;go_ret;exact ⟨rfl,Lib.below_freeze (Below.drew (Below.refl B w)) (p:=⟨g,0,none⟩) hbg _⟩)
end
section
def bstr (l:List UInt8):Value:=.string ⟨l.toArray⟩
theorem strCells_bytes (l:List UInt8):Lib.strCells ⟨l.toArray⟩ = Lib.byteCells l:=by simp [Lib.strCells,Lib.byteCells]
structure TxI (w:World) (w2:World) (lo hi:Nat) (l:List UInt8) (wr:World):Prop where
 bld:yK 193 5 w.heap.size w.heap.size lo hi (.pointer (some ⟨w.heap.size,0,none⟩)) (Lib.byteCells l) wr
 bel:Below w.heap.size w wr
 top:hi ≤ wr.heap.size
 kept:∀ k,lo ≤ k→k < hi→wr.heap[k]? = w2.heap[k]?
theorem TxI.call {w w2 wr w':World} {lo hi:Nat} {l:List UInt8} (h:TxI w w2 lo hi l wr) (hb:Below wr.heap.size wr w'):TxI w w2 lo hi l w' :=
 ⟨h.bld.below hb,h.bel.trans (hb.mono h.bel.size),Nat.le_trans h.top hb.size,fun k h1 h2 => (hb.block k (by have:=h.top;omega)).trans (h.kept k h1 h2)⟩
theorem TxI.write {w w2 wr w':World} {lo hi:Nat} {l:List UInt8} {s:List UInt8} (h:TxI w w2 lo hi l wr) (hlo:w.heap.size < lo) (hb:BldW w.heap.size w.heap.size lo hi (Lib.byteCells l ++ Lib.strCells ⟨s.toArray⟩) wr w'):TxI w w2 lo hi (l ++ s) w':=by
 obtain ⟨h1,h2,h3,h4⟩:=hb
 rw [strCells_bytes,← Lib.byteCells_append] at h1
 exact ⟨h1,h.bel.trans h2,Nat.le_trans h.top h3,fun k k1 k2 => (h4 k k1 k2 (by have:=h.top;omega) (by omega)).trans (h.kept k k1 k2)⟩
theorem c_impl_treeText:∀ (n:Nat) (v:Value) (t:List Int) (w:World),Rd (RS RI) w [v] t→qY t→t.length ≤ n→t.length ≤ 1000000 →
  Calls Tryz.prog 124 #[v] w (RetV w (bstr (txtF n t))):=by
 intro n
 induction n with
 | zero => intro v t w h hl hn h13;have:=hl.pos;omega
 | succ n ih =>
  intro v t w h hl hn h13
  have HL:=Lib.hid hl
  have IH:=Lib.hid ih
  have hfew:=brs_few hl
  have HLEN:=Lib.hid (txtTo_len hl hn)
  have HFL:=Lib.hid (wQ (n + 1) t hl hn)
  clear ih
  obtain ⟨wa,hwa⟩:∃ wa,wa = w.alloc (.cells #[.pointer none,.slice none 0 0] 193):=⟨_,rfl⟩
  have hsa:wa.heap.size = w.heap.size + 1:=by rw [hwa];simp
  have hbela:Below w.heap.size w wa:=by rw [hwa];exact (Below.refl _ _).alloc (Nat.le_refl _) _
  have hbuilt:yK 193 5 w.heap.size w.heap.size 0 0 (.pointer none) (Lib.byteCells []) wa:=by
   rw [hwa]
   exact ⟨Nat.le_refl _,.slice none 0 0,heap_alloc_new w _,World.ownsRowF_nil _ _ _ _,by simp [Value.ownBlock],fun k hk => by simp [Value.ownBlock] at hk⟩
  have hw1:=jU0 w.heap.size w.heap.size 0 0 (.pointer none) _ ⟨#[91]⟩ wa (.inl rfl) hbuilt (by decide) (by omega) (Nat.zero_le _)
  clear hbuilt
  go_enter Tryz.func124,Tryz.ntmps124
  go_wp2_with (go_at_call 184;rw [← hwa];refine hw1.mono ?_)
  rintro e w1 ⟨rfl,hb1,bel1,hk1⟩
  have hs1:=bel1.size
  have hbel1:Below w.heap.size w w1:=hbela.trans bel1
  have hr1:=h.below hbel1 (Nat.le_refl _)
  have hbr:=jY0 v t w1 hr1 HL.out (by omega)
  have HK:=Lib.hid hk1
  have HB:=Lib.hid (yK.ofF (hi:=w1.heap.size) hb1.toF)
  clear hr1 hw1 hb1 hk1 h
  go_wp2_with (go_at_call 103;refine hbr.mono ?_;rintro e w2 ⟨u,rfl,o1,b1⟩;obtain ⟨oa,cap,rfl,l1,l2⟩:=o1.val)
  have hsz1:=b1.size
  have hI0:TxI w w2 w1.heap.size w2.heap.size (txtTo n t 0) w2:=by
   have h1:=HB.out
   obtain ⟨q1,v1,q2,q3,q4,q5⟩:=h1
   refine ⟨yK.below ⟨q1,v1,q2,q3,q4,fun k hk => .inl (by have:=(q3.lt k hk).2;omega)⟩ b1,hbel1.trans (b1.mono hbel1.size),Nat.le_refl _,fun k _ _ => rfl⟩
  have HO:=Lib.hid o1
  clear o1 hbr
  go_loopw [5,10] (fun _ i wr => ∃ k:Nat,k ≤ (brs t).length∧i = .int .i64 k∧TxI w w2 w1.heap.size w2.heap.size (txtTo n t k) wr) (fun _ i _ => (brs t).length - (intOf i).toNat)
  case atStart => exact ⟨0,Nat.zero_le _,rfl,hI0⟩
  case round =>
   obtain ⟨k,hk,rfl,hI⟩:=hrel
   have o2:=HO.out.frame hI.kept
   obtain ⟨oa1,cap1,L⟩:=o2.rd.lists
   have hval:=L.val
   simp only [Value.slice.injEq,true_and] at hval
   obtain ⟨rfl,rfl⟩:=hval
   by_cases hlt:k < (brs t).length
   ·obtain ⟨b,off,hoa,hb,hc⟩:=L.get hlt
    obtain ⟨oi,ci,g1,hrd,q1,q2⟩:=hc k hlt
    subst hoa
    have hmem:=List.getElem_mem hlt
    have hshort:=yA HL.out _ hmem
    have hc2:=IH.out (.slice oi (brs t)[k].length ci) (brs t)[k] wr hrd (jX HL.out _ hmem) (by omega) (by omega)
    have HN:=Lib.hid (txtTo_succ n t k hlt)
    have hlk:=HLEN.out (k + 1)
    rw [HN.out,List.length_append] at hlk
    have HI:=Lib.hid hI
    clear hI L o2 hc hrd
    go_wp2_with (go_at_call 124;refine hc2.mono ?_;rintro e w3 ⟨rfl,b2⟩)
    have hI2:=HI.out.call b2
    have hw3:=jU0 w.heap.size w.heap.size w1.heap.size w2.heap.size _ _ ⟨(txtF n (brs t)[k]).toArray⟩ w3 (.inr rfl) hI2.bld
     (by simp only [Lib.byteCells_length];show _ + (txtF n (brs t)[k]).toArray.size ≤ _;rw [List.size_toArray];omega) (by have:=hI2.bel.size;omega) hI2.top
    have HI2:=Lib.hid hI2
    clear hI2 hc2
    go_wp2_with (go_at_call 184;refine hw3.mono ?_)
    rintro e w4 ⟨rfl,hb4⟩
    have HI4:=Lib.hid (HI2.out.write (by omega) hb4)
    clear hw3 hb4
    go_wp2_with fail
    go_roundw
    case rel => exact ⟨k + 1,by omega,by go_num,by rw [HN.out];exact HI4.out⟩
    case measure => simp [intOf];omega
   ·have hke:k = (brs t).length:=by omega
    subst hke
    have hlk:=HLEN.out (brs t).length
    have hw3:=jU0 w.heap.size w.heap.size w1.heap.size w2.heap.size _ _ ⟨#[93]⟩ wr (.inr rfl) hI.bld
     (by simp only [Lib.byteCells_length];show _ + 1 ≤ _;omega) (by have:=hI.bel.size;omega) hI.top
    have HI:=Lib.hid hI
    clear hI o2 L
    go_wp2_with (go_at_call 184;refine hw3.mono ?_)
    rintro e w4 ⟨rfl,hb4⟩
    have hI4:=HI.out.write (s:=[93]) (by omega) hb4
    rw [txtTo_all] at hI4
    have hst:=c_BuilderString w.heap.size w.heap.size _ (txtF (n + 1) t) w4 hI4.bld.toF (by intro h;have:=HFL.out;rw [h] at this;simp at this;omega)
    have HI4:=Lib.hid hI4
    clear hI4 hw3 hb4
    go_wp2_with (go_at_call 185;refine hst.mono ?_)
    rintro e w5 ⟨rfl,hb5⟩
    clear hst
    go_wp2_with fail
    go_ret
    exact ⟨rfl,HI4.out.bel.trans hb5⟩
end
section
theorem AFn.valT2 {P:Program} {f:FuncId} {ds:List (List D)} {k:Nat} {xs:List (List D)} {c:Int} (h:AFn P f ds (· = [.own k xs true,.val (.int c)])):AFn P f ds (· = [.val (.sl k xs),.val (.int c)]):=by
 refine ⟨h.call,fun A w vs hA hr => (h.fn A w vs hA hr).mono ?_⟩
 rintro e w' ⟨v,rs,rfl,rfl,hb,us,G,X,rfl,hG1,hG2,hrel⟩
 obtain ⟨v1,us1,G1,G2,Y1,Y2,rfl,e1,e2,ho,⟨og,cap,F,dd,rfl,hrow,hk,e3,e4,hel⟩,hrest⟩:=hrel
 have hel:ownR k w' dd xs F:=hel
 have hv:=kA.2 ⟨og,dd,F,hrow,hel,rfl⟩
 obtain ⟨v2,us2,G3,G4,Y3,Y4,rfl,f1,f2,ho2,⟨hv2,f3,f4⟩,hend⟩:=hrest
 have hend:us2 = []∧G4 = []∧Y4 = []:=hend
 obtain ⟨rfl,rfl,rfl⟩:=hend
 refine ⟨_,_,rfl,rfl,hb,[_,_],[],[],rfl,List.nodup_nil,(fun b hb => nomatch hb),_,[_],[],[],[],[],rfl,rfl,rfl,ho,⟨?_,rfl,rfl⟩,_,[],[],[],[],[],rfl,rfl,rfl,ho2,⟨qO.2 (qO.1 hv2),rfl,rfl⟩,rfl,rfl,rfl⟩
 exact hv.rd.mono (fun b hb _ => ⟨.inr (hG2 b (by
  rw [e1,e3]
  exact List.mem_append_left _ (by simpa using hb))),by simp⟩)
theorem AFn.valF2 {P:Program} {f:FuncId} {ds:List (List D)} {k:Nat} {xs:List (List D)} {c:Int} (h:AFn P f ds (· = [.own k xs false,.val (.int c)])):AFn P f ds (· = [.val (.sl k xs),.val (.int c)]):=by
 refine ⟨h.call,fun A w vs hA hr => (h.fn A w vs hA hr).mono ?_⟩
 rintro e w' ⟨v,rs,rfl,rfl,hb,us,G,X,rfl,hG1,hG2,hrel⟩
 obtain ⟨v1,us1,G1,G2,Y1,Y2,rfl,e1,e2,ho,⟨og,cap,F,dd,rfl,hrow,hk,e3,e4,hel⟩,hrest⟩:=hrel
 obtain ⟨v2,us2,G3,G4,Y3,Y4,rfl,f1,f2,ho2,⟨hv2,f3,f4⟩,hend⟩:=hrest
 have hend:us2 = []∧G4 = []∧Y4 = []:=hend
 obtain ⟨rfl,rfl,rfl⟩:=hend
 have hel:rdR k (fun b => (A b ∨ w.heap.size ≤ b)∧b ∉ X) w' dd xs:=hel
 refine ⟨_,_,rfl,rfl,hb,[_,_],[],[],rfl,List.nodup_nil,(fun b hb => nomatch hb),_,[_],[],[],[],[],rfl,rfl,rfl,ho,⟨?_,rfl,rfl⟩,_,[],[],[],[],[],rfl,rfl,rfl,ho2,⟨qO.2 (qO.1 hv2),rfl,rfl⟩,rfl,rfl,rfl⟩
 obtain ⟨oa,c',e,h1,h2,h3,h4⟩:=vV hrow
 refine yT.2 ⟨oa,c',dd,e,h1,h2,h3,hel.mono (fun b hb _ => ⟨hb.1,by simp⟩),?_⟩
 cases og with
 | none =>
  left
  have:=hrow.len0
  exact List.eq_nil_of_length_eq_zero (by rw [hrow.1,this,Nat.zero_mul])
 | some g =>
  refine .inr ⟨g,0,h4,⟨.inr (hG2 g (by rw [e1,e3];simp)),by simp⟩,fun j u hj => ?_⟩
  rw [Nat.zero_add]
  exact hrow.cells j u hj
theorem AFn.valB2 {P:Program} {f:FuncId} {ds:List (List D)} {k:Nat} {xs:List (List D)} {c:Int} {b:Bool} (h:AFn P f ds (· = [.own k xs b,.val (.int c)])):AFn P f ds (· = [.val (.sl k xs),.val (.int c)]):=by
 cases b with
 | true => exact h.valT2
 | false => exact h.valF2
end
section
section
variable {P:Program} {cfg:Cfg} {M:Nat→Prop} {ops:Array Oper} {s:St}
theorem qV.givesW (o:Oper) {l:List Oper} {Q:St→Prop} {d:Nat} {av:AV} (hw:jQ ops s.regs o = some true) (hd:o.dst = some d) (hdN:d < cfg.N)
  (hG:∀ {w0:W0} {Ok σ a w},Sim w0 Ok cfg.N σ s a w→yO P a w o (relAV σ s.heap w av)) (h:qV P cfg M ops l Q ⟨insR d av s.regs,s.heap⟩):qV P cfg M ops (o :: l) Q s:=by
 intro w0 Ok σ a w Q' hM hS hQ
 refine wpList_step (fun K hK => ?_)
 rw [xH hS hw]
 simp only [if_true]
 obtain ⟨v,h1,h2⟩:=hG hS
 unfold Oper.wp
 rw [h1]
 show K (a.put o.dst _) _
 rw [hd]
 exact hK _ _ (h w0 Ok σ _ _ Q' hM (Sim.ins hS hdN h2) hQ)
end
end
section
section
variable {P:Program} {α:Type} {R:Rep α} {e:α→List D}
end
theorem a_treeText (n:Nat) (t:List Int) (h:qY t) (hn:t.length ≤ n) (h6:t.length ≤ 1000000):AFn Tryz.prog 124 [eL t] (· = [.val (.raw (bstr (txtF n t)))]) :=
 AFn.of_v (enters_of Tryz.func124 rfl rfl) (fun _ _ => jL.2 ⟨rfl,rfl⟩) (fun w A vs h' => by
  obtain ⟨v,rfl,hr⟩:=tab_one h'
  exact c_impl_treeText n v t w hr h hn h6)
theorem a_TreeText (t:List Int) (h:lev8 t = true):AFn Tryz.prog 62 [eL t] (· = [.val (.raw (bstr (txtF 8 (canon t)))),.val (.int 0)]):=by
 have hl:=qH0 t
 have hc:=AFn.valT (a_canonical t (xE h) (xG h))
 have ht:=a_treeText 8 (canon t) (yE (xE h)) (by rw [xN (xE h)];exact xG h) (by rw [xN (xE h)];have:=xG h;omega)
 rw [h] at hl
 simp only [eL] at hl hc ht ⊢
 refine AFn.of_runs (qX 10) Tryz.func62 rfl rfl rfl gz ?_
 have hres:Tryz.f62.results.toList = [.tmp 2,.tmp 3]:=rfl
 have hrts:Tryz.f62.resultTypes.toList = [9,2]:=rfl
 simp only [qK,qA,eL,eI,eLL,eB,Nat.zero_add,Nat.reduceAdd]
 intro M
 refine qQ.of ?_
 refine gw85 (kk 4) ?_
 exact gw8
end
section
def bb (l:List UInt8):ByteArray:=⟨l.toArray⟩
theorem bb_app (p q:List UInt8):bb p ++ bb q = bb (p ++ q):=by
 unfold bb
 rw [ByteArray.mk_append_mk]
theorem bb_list (l:List UInt8):(bb l).toList = l:=by
 rw [ByteArray.toList_eq]
 simp [bb]
theorem bb_size (l:List UInt8):(bb l).size = l.length:=by simp [bb,ByteArray.size]
theorem bb_bar:(⟨#[124]⟩:ByteArray) = bb [124]:=rfl
theorem bb_le {p q:List UInt8} (h:p.length + q.length ≤ 1000000000):((bb p).size + (bb q).size ≤ 1000000000) = True:=eq_true (by rw [bb_size,bb_size];exact h)
def eKn (p:List UInt8 × Int):List D:=[.raw (.string (bb p.1)),.int p.2]
theorem a_text9 (f:List (List Int)) (hf:ShF f):AFn Tryz.prog 16 [eLL f] (· = [.val (.raw (.string (bb (txF f))))]):=by
 have hlm:(f.map eL).length = f.length:=List.length_map _
 have hfl:=hf.2.2
 have hsm:=hf.2.1
 simp only [eLL]
 refine AFn.of_runs (qX 31) Tryz.func16 rfl rfl rfl gz ?_
 have hres:Tryz.f16.results.toList = [.tmp 2]:=rfl
 have hrts:Tryz.f16.resultTypes.toList = [9]:=rfl
 simp only [qK,qA,eL,eI,eLL,eB,Nat.zero_add,Nat.reduceAdd]
 intro M
 refine qQ.of ?_
 refine gw7 (kk 6) Y0 ?_
 refine qQ.loop (β:=Nat) (γ:=Unit) (fun k => ⟨[(0,.c (.val (.sl 1 (f.map eL)))),(3,.c (.val (.raw (.string (bb (txF (f.take k))))))),(4,.c (.val (.int k)))],[]⟩) (fun k => k ≤ f.length) (fun k => f.length - k)
  (fun _ => ⟨[(3,.c (.val (.raw (.string (bb (txF f))))))],[]⟩) (fun _ => True) 0 (Nat.zero_le _) ?_ ?_ ?_
 ·(repeat' (first|exact Qn|((with_reducible refine Qr ?_ ?_);focus first|with_reducible rfl|(simp only [Zz,Nat.reduceBEq,List.take_zero,show bb (txF []) = (⟨#[]⟩:ByteArray) from rfl,Int.natCast_zero];done)|rfl)|((with_reducible apply Qj);rfl)|((with_reducible refine Qw ?_ ?_);(focus first|with_reducible rfl|(simp only [Zv,List.take_zero,show bb (txF []) = (⟨#[]⟩:ByteArray) from rfl,Int.natCast_zero];done));first|exact id|exact nofun|exact fun _=>rfl)))
 ·intro k hk
  have hk:k ≤ f.length:=hk
  have hw:=qI (n:=k) (by omega)
  by_cases h:k < f.length
  ·have i1:((k:Int) < (f.length:Int)) = True:=eq_true (by omega)
   have i2:((0:Int) ≤ (k:Int)) = True:=eq_true (by omega)
   have hbl:=hf.1 f[k] (List.getElem_mem _)
   have hst:txF (f.take (k + 1)) = txF (f.take k) ++ (if f[k] = [] then [] else txtF 8 f[k]):=by
    unfold txF
    rw [List.take_succ_eq_append_getElem h,List.flatMap_append];simp
   have hle:=txF_len (f:=f.take k) fun t ht => hf.lev t (List.mem_of_mem_take ht)
   have hle2:=jV0 f k
   obtain ⟨b,hb⟩:∃ b,b = f[k]:=⟨_,rfl⟩
   have hg:(f.map eL)[k]? = some [.sl 1 (b.map eI)]:=by rw [qP h,hb];rfl
   rw [← hb] at hbl hst
   have hbm:(b.map eI).length = b.length:=List.length_map _
   obtain ⟨X,hX⟩:∃ X,X = txF (f.take k):=⟨_,rfl⟩
   rw [← hX] at hst hle ⊢
   by_cases hb0:b = []
   ·rw [if_pos hb0,List.append_nil] at hst
    have j1:((b.length:Int) > 0) = False:=eq_false (by rw [hb0];simp)
    refine gw12 (kk 6) (Y7 i1 i2 hg hlm hbm j1 hw) ?_
    refine qW.on (k + 1) ⟨h,by omega⟩ ?_
    rw [hst]
    exact gw6
   ·rw [if_neg hb0] at hst
    obtain ⟨h8,hcn⟩:=hbl.resolve_left hb0
    have hpos:0 < b.length:=List.length_pos_iff.2 hb0
    have j1:((b.length:Int) > 0) = True:=eq_true (by omega)
    have htx:=a_TreeText b h8
    rw [hcn] at htx
    have htx:AFn Tryz.prog 62 [[.sl 1 (b.map eI)]] (· = [.val (.raw (.string (bb (txtF 8 b)))),.val (.int 0)]):=htx
    have h8l:=wQ 8 b (xE h8) (xG h8)
    have h8m:=xG h8
    obtain ⟨Y,hY⟩:∃ Y,Y = txtF 8 b:=⟨_,rfl⟩
    rw [← hY] at htx h8l hst
    have hs:=bb_le (p:=X) (q:=Y) (by omega)
    refine gw86 (kk 6) (Y8 i1 i2 hg hlm hbm j1 hs hw) ?_
    refine qW.on (k + 1) ⟨h,by omega⟩ ?_
    rw [hst]
    exact gw6
  ·obtain rfl:k = f.length:=by omega
   have i1:(((f.length:Nat):Int) < (f.length:Int)) = False:=eq_false (by omega)
   rw [List.take_length]
   refine gw7 (kk 6) (Yp i1 hlm) ?_
   refine qW.out () trivial ?_
   exact gw6
 ·rintro ⟨⟩ -
  refine gw7 (kk 6) Y0 ?_
  exact gw8
theorem a_keep9 (L:Kn) (x:List UInt8) (n:Int) {k:Nat} (hL:KnOk k L) (hk:k ≤ 1000000) (hn:1 ≤ n∧n ≤ 65536):AOw Tryz.prog 15 [] 2 (L.map eKn) [[.raw (.string (bb x))],eI n] (· = [.own 2 ((keepN L x n).map eKn) false]):=by
 have hlm:(L.map eKn).length = L.length:=List.length_map _
 have hll:=hL.len
 refine AOw.of_runs (qX 39) Tryz.func15 rfl rfl rfl gz ?_
 have hres:Tryz.f15.results.toList = [.tmp 6]:=rfl
 have hrts:Tryz.f15.resultTypes.toList = [32]:=rfl
 simp only [List.length_cons,List.length_nil,List.nil_append,List.cons_append,qK,qA,eL,eI,eLL,eB,Nat.zero_add,Nat.reduceAdd]
 intro M
 refine qQ.of ?_
 refine gw7 (kk 8) Y0 ?_
 refine qQ.loop (β:=Nat) (γ:=Unit) (fun i => ⟨[(0,.c (.own 0 L.length)),(1,.c (.val (.raw (.string (bb x))))),(2,.c (.val (.int n))),(7,.c (.val (.int i)))],[(0,.row 2 (L.map eKn) false)]⟩) (fun i => i ≤ L.length∧∀ j (hj:j < L.length),j < i→L[j].1 ≠ x) (fun i => L.length - i)
  (fun _ => ⟨[(0,.c (.own 0 L.length)),(1,.c (.val (.raw (.string (bb x))))),(2,.c (.val (.int n)))],[(0,.row 2 (L.map eKn) false)]⟩) (fun _ => ∀ p ∈ L,p.1 ≠ x) 0 ⟨Nat.zero_le _,fun j _ h => absurd h (Nat.not_lt_zero _)⟩ ?_ ?_ ?_
 ·exact gw87 Y0
 ·rintro i ⟨hi,hno⟩
  have hi:i ≤ L.length:=hi
  have hw:=qI (n:=i) (by omega)
  by_cases h:i < L.length
  ·have i1:((i:Int) < (L.length:Int)) = True:=eq_true (by omega)
   have i2:((0:Int) ≤ (i:Int)) = True:=eq_true (by omega)
   have hbd:=hL.bd L[i] (List.getElem_mem _)
   have hhit:=keepN_hit (x:=x) (n:=n) h hno
   have hnx:∀ (_:L[i].1 ≠ x),∀ j (hj:j < L.length),j < i + 1→L[j].1 ≠ x:=fun h0 j hj hji => by
    by_cases e:j = i
    ·subst e;exact h0
    ·exact hno j hj (by omega)
   obtain ⟨p,hp⟩:∃ p,p = L[i]:=⟨_,rfl⟩
   rw [← hp] at hbd hhit hnx
   have hg:(L.map eKn)[i]? = some [.raw (.string (bb p.1)),.int p.2]:=by rw [qP h,hp];rfl
   by_cases he:p.1 = x
   ·have e1:(p.1 == x) = true:=beq_iff_eq.2 he
    have w1:w64 (p.2 + n) = p.2 + n:=qR (by omega)
    have hset:(L.map eKn).set i [.raw (.string (bb p.1)),.int (p.2 + n)] = (keepN L x n).map eKn:=by rw [hhit he,List.map_set];rfl
    have hkl:(keepN L x n).length = L.length:=by rw [hhit he,List.length_set]
    refine gw88 (kk 8) (Y6 i1 i2 hg hlm e1 w1) ?_
    refine qW.ret ?_
    refine gw7 (kk 8) Y0 ?_
    rw [hset]
    exact gw8
   ·have e1:(p.1 == x) = false:=beq_eq_false_iff_ne.2 he
    refine gw88 (kk 8) (Y6 i1 i2 hg hlm e1 hw) ?_
    refine qW.on (i + 1) ⟨⟨h,hnx he⟩,by omega⟩ ?_
    exact gw6
  ·obtain rfl:i = L.length:=by omega
   have i1:(((L.length:Nat):Int) < (L.length:Int)) = False:=eq_false (by omega)
   refine gw7 (kk 8) (Yp i1 hlm) ?_
   refine qW.out () (fun p hp => ?_) ?_
   ·obtain ⟨j,hj,rfl⟩:=List.getElem_of_mem hp
    exact hno j hj hj
   exact gw6
 ·rintro ⟨⟩ hno
  have hmiss:=keepN_miss (n:=n) hno
  have q1:=jS (n:=L.length + 1) (by omega)
  have q2:=jO (n:=L.length + 1) (c:=24) (by omega) (by omega)
  rw [hmiss]
  refine gw7 (kk 8) (Y3 q1 q2 hlm) ?_
  (refine Ends.mk (by simp) (rs:=?_) (ks:=?_) hres hrts ?_ ?_ ?_;rotate_left 2;(focus (simp only [Ze,Zg,Zi,seval,eKn];with_reducible rfl));(focus simp);focus (first|with_reducible rfl|(simp only [Zv,eKn];done)))
theorem run_eqKey (w:World) (p q:ByteArray) (m n:Int) (x y:Operand):(do eqGuard .eql 90 x y (.agg #[.string p,.int .i64 m]) (.agg #[.string q,.int .i64 n]);binOp .eql 90 (.agg #[.string p,.int .i64 m]) (.agg #[.string q,.int .i64 n]):Sem Value).run Tryz.prog w = .ok (.bool (p.toList == q.toList && m == n)) w:=by
 have hS:Tryz.prog.underlying 90 = some (.struct (Tryz.prog.fieldsOf 90)):=by kernel_rfl
 have hp:Tryz.prog.stoodInHeld 90 = false:=by kernel_rfl
 have hg:Tryz.prog.eqGuardType Tryz.prog.depth 90 = false:=by kernel_rfl
 have ha:Tryz.prog.underlying 2 = some (.int .i64):=i64_a
 have hs:Tryz.prog.underlying 9 = some .string:=by kernel_rfl
 have u1:=Tryz.underlying9
 have u2:=Tryz.underlying2
 have a1:=Tryz.isAgg9
 have a2:=Tryz.isAgg2
 have z1:=Tryz.sizeOf9
 have z2:=Tryz.sizeOf2
 simp only [Sem.run_bind,run_eqGuard_agg w _ _ _ _ _ _ hg,Result.andThen_ok]
 rw [run_eql_struct,show (10000:Nat) = 9999 + 1 from rfl,run_equalIn_agg w 9999 90 _ _ hS hp]
 simp only [Program.fieldsOf,Tryz.underlying90]
 go_simp
 by_cases h1:p.toList = q.toList <;> by_cases h2:m = n <;> simp [h1,h2]
def fndK (p:List UInt8 × Int) (R:Kn) (k:Nat):Bool:=(R.take k).any fun q => p.1 == q.1 && p.2 == q.2
theorem fndK_succ {p:List UInt8 × Int} {R:Kn} {k:Nat} (h:k < R.length):fndK p R (k + 1) = (fndK p R k || (p.1 == R[k].1 && p.2 == R[k].2)):=by
 unfold fndK
 rw [List.take_succ_eq_append_getElem h,List.any_append];simp
theorem fndK_all {p:List UInt8 × Int} {R:Kn} (h:p ∈ R):fndK p R R.length = true:=by
 unfold fndK
 rw [List.take_length]
 exact List.any_eq_true.2 ⟨p,h,by simp⟩
section
variable {cfg:Cfg} {M:Nat→Prop} {ops:Array Oper} {s:St}
theorem key_at {w0:W0} {Ok:Nat→Prop} {N:Nat} {σ:Asg} {a:Act} {w:World} (hS:Sim w0 Ok N σ s a w) {z:Operand} {p:ByteArray} {m:Int} (hz:opv s.regs z = some (.agg [.val (.raw (.string p)),.val (.int m)])):a.eval z = .agg #[.string p,.int .i64 m]:=by
 obtain ⟨us,h1,v,us',rfl,_,h2,u,us'',rfl,_,h3,h4⟩:=qM hS hz
 have h4:us'' = []:=h4
 obtain ⟨rfl,_⟩:=jL.1 h2
 obtain ⟨rfl,_⟩:=qO.1 h3
 rw [h1,h4]
theorem qV.keyEq {o:Oper} {l:List Oper} {Q:St→Prop} {x y:Operand} {u:TypeId} {d:Nat} {p q:ByteArray} {m n:Int} (ho:o.op = .binOp .eql 90 x y u) (hw:jQ ops s.regs o = some true) (hd:o.dst = some d) (hdN:d < cfg.N)
  (hx:opv s.regs x = some (.agg [.val (.raw (.string p)),.val (.int m)])) (hy:opv s.regs y = some (.agg [.val (.raw (.string q)),.val (.int n)])) (h:qV Tryz.prog cfg M ops l Q ⟨insR d (dval (.bool (p.toList == q.toList && m == n))) s.regs,s.heap⟩):qV Tryz.prog cfg M ops (o :: l) Q s:=by
 refine qV.givesW o hw hd hdN (fun {w0 Ok σ a w} hS => ?_) h
 have e1:=key_at hS hx
 have e2:=key_at hS hy
 refine ⟨.bool (p.toList == q.toList && m == n),?_,rfl,jC.2 rfl⟩
 have hv:=run_eqKey w p q m n x y
 unfold execOp
 rw [ho]
 simp only [Sem.run_bind] at hv ⊢
 rw [e1,e2,hv]
 simp
end
theorem a_equal9 (L R:Kn) (hl:L.length = R.length) (hm:∀ p ∈ L,p ∈ R) (hs:L.length ≤ 1000000):AFn Tryz.prog 17 [[.sl 2 (L.map eKn)],[.sl 2 (R.map eKn)]] (· = [.val (.bool true)]):=by
 have hLm:(L.map eKn).length = L.length:=List.length_map _
 have hRm:(R.map eKn).length = L.length:=by rw [List.length_map,hl]
 have bLL:((L.length:Int) != (L.length:Int)) = false:=by simp
 refine AFn.of_runs (qX 39) Tryz.func17 rfl rfl rfl gz ?_
 have hres:Tryz.f17.results.toList = [.tmp 4]:=rfl
 have hrts:Tryz.f17.resultTypes.toList = [4]:=rfl
 simp only [qK,qA,eL,eI,eLL,eB,Nat.zero_add,Nat.reduceAdd]
 intro M
 refine qQ.of ?_
 refine gw28 (kk 8) (Y3 hLm hRm bLL) ?_
 refine qQ.loop (β:=Nat) (γ:=Unit) (fun i => ⟨[(0,.c (.val (.sl 2 (L.map eKn)))),(1,.c (.val (.sl 2 (R.map eKn)))),(5,.c (.val (.int i)))],[]⟩) (fun i => i ≤ L.length) (fun i => L.length - i)
  (fun _ => ⟨[],[]⟩) (fun _ => True) 0 (Nat.zero_le _) ?_ ?_ ?_
 ·exact gw87 Y0
 ·intro i hi
  have hi:i ≤ L.length:=hi
  have hw:=qI (n:=i) (by omega)
  by_cases h:i < L.length
  rotate_left
  ·have i1:((i:Int) < (L.length:Int)) = False:=eq_false (by omega)
   refine gw28 (kk 8) (Yp i1 hLm) ?_
   refine qW.out () trivial ?_
   exact gw6
  have i1:((i:Int) < (L.length:Int)) = True:=eq_true (by omega)
  have i2:((0:Int) ≤ (i:Int)) = True:=eq_true (by omega)
  have hpm:=fndK_all (hm L[i] (List.getElem_mem _))
  obtain ⟨p,hp⟩:∃ p,p = L[i]:=⟨_,rfl⟩
  rw [← hp,← hl] at hpm
  have hg:(L.map eKn)[i]? = some [.raw (.string (bb p.1)),.int p.2]:=by rw [qP h,hp];rfl
  refine gw28 (kk 8) (Yp i1 hLm) ?_
  refine qQ.loop (β:=Nat) (γ:=Unit) (fun k => ⟨[(0,.c (.val (.sl 2 (L.map eKn)))),(1,.c (.val (.sl 2 (R.map eKn)))),(5,.c (.val (.int i))),(6,.c (.val (.bool (fndK p R k)))),(7,.c (.val (.int k)))],[]⟩) (fun k => k ≤ L.length) (fun k => L.length - k)
   (fun _ => ⟨[(0,.c (.val (.sl 2 (L.map eKn)))),(1,.c (.val (.sl 2 (R.map eKn)))),(5,.c (.val (.int i))),(6,.c (.val (.bool true)))],[]⟩) (fun _ => True) 0 (Nat.zero_le _) ?_ ?_ ?_
  ·exact gw87 (show fndK p R 0 = false from rfl)
  ·intro k hk
   have hk:k ≤ L.length:=hk
   have hwk:=qI (n:=k) (by omega)
   by_cases h':k < L.length
   rotate_left
   ·have j1:((k:Int) < (L.length:Int)) = False:=eq_false (by omega)
    obtain rfl:k = L.length:=by omega
    rw [hpm]
    refine gw28 (kk 8) (Yp j1 hRm) ?_
    refine qW.out () trivial ?_
    exact gw6
   have j1:((k:Int) < (L.length:Int)) = True:=eq_true (by omega)
   have j2:((0:Int) ≤ (k:Int)) = True:=eq_true (by omega)
   have hst:=fndK_succ (p:=p) (show k < R.length by omega)
   obtain ⟨q,hq⟩:∃ q,q = R[k]'(by omega):=⟨_,rfl⟩
   rw [← hq] at hst
   have hgr:(R.map eKn)[k]? = some [.raw (.string (bb q.1)),.int q.2]:=by rw [qP (by omega),hq];rfl
   cases hfo:fndK p R k with
   | true =>
    rw [hfo,Bool.true_or] at hst
    refine gw37 (kk 8) (Y9 i1 i2 j1 j2 hLm hRm hg hgr hwk) ?_
    refine qW.on (k + 1) ⟨h',by omega⟩ ?_
    rw [hst]
    exact gw6
   | false =>
    rw [hfo,Bool.false_or] at hst
    refine gw28 (kk 8) (Yp j1 hRm) ?_
    ((with_reducible refine qQ.wFz (qX 39) Tab.none qE [] (tr:=?_) (s1:=?_) (rest:=?_) ?_ ?_ ?_);rotate_left 3;(focus ((with_reducible refine QW ?_);simp only [Zg,Zd,Zi,seval,drunF,kT,xS,valD,vJ,List.contains_cons,List.contains_nil,i1,i2,j1,j2,hLm,hRm,hg,hgr,Int.toNat_natCast];with_reducible rfl));focus ((with_reducible refine QK ?_);simp only [Zk];kernel_rfl))
    refine qV.keyEq (d:=35) rfl (by rfl) rfl (by decide) rfl rfl ?_
    rw [bb_list,bb_list,← hst]
    (refine qV.opsT (qX 39) (T:=Tab.none) (s':=?_) ?_ ?_;rotate_left 1;focus (simp only [Zg,Zi,seval];with_reducible rfl))
    refine gw28 (kk 8) hwk ?_
    refine qW.on (k + 1) ⟨h',by omega⟩ ?_
    exact gw6
  intro _ _
  refine gw28 (kk 8) hw ?_
  refine qW.on (i + 1) ⟨h,by omega⟩ ?_
  exact gw6
 intro _ _
 refine gw28 (kk 8) Y0 ?_
 exact gw8
end
section
theorem a_nodes9t (f:List (List Int)) (h1:f.length ≤ 1048576) (h2:qJ f ≤ 1048576):AFn Tryz.prog 20 [eLL f] (· = [.val (.int (qJ f:Nat))]):=by
 have hfm:(f.map eL).length = f.length:=List.length_map _
 refine AFn.of_runs (qX 19) Tryz.func20 rfl rfl rfl gz ?_
 have hres:Tryz.f20.results.toList = [.tmp 2]:=rfl
 have hrts:Tryz.f20.resultTypes.toList = [2]:=rfl
 simp only [qK,qA,eL,eI,eLL,eB,Nat.zero_add,Nat.reduceAdd]
 intro M
 refine qQ.of ?_
 refine gw7 (kk 5) Y0 ?_
 refine qQ.loop (β:=Nat) (γ:=Unit) (fun i => ⟨[(0,.c (.val (.sl 1 (f.map eL)))),(3,.c (.val (.int (qJ (f.take i):Nat)))),(4,.c (.val (.int i)))],[]⟩) (fun i => i ≤ f.length) (fun i => f.length - i)
  (fun _ => ⟨[(3,.c (.val (.int (qJ f:Nat))))],[]⟩) (fun _ => True) 0 (Nat.zero_le _) ?_ ?_ ?_
 ·exact gw89 (show qJ [] = 0 from rfl)
 ·intro i hi
  have hi:i ≤ f.length:=hi
  have hw:=qI (n:=i) (by omega)
  by_cases h:i < f.length
  ·have i1:((i:Int) < (f.length:Int)) = True:=eq_true (by omega)
   have i2:((0:Int) ≤ (i:Int)) = True:=eq_true (by omega)
   have hg:(f.map eL)[i]? = some (eL f[i]):=by rw [List.getElem?_map,List.getElem?_eq_getElem h];rfl
   have hs:=sumLen_take_succ f i h
   have hle:=jV0 f (i + 1)
   have hlm:(f[i].map eI).length = f[i].length:=List.length_map _
   have w1:w64 (((qJ (f.take i):Nat):Int) + (f[i].length:Int)) = ((qJ (f.take (i + 1)):Nat):Int):=by rw [hs,qR (by omega)];omega
   simp only [eL] at hg
   refine gw12 (kk 5) (Y7 i1 i2 hfm hg hlm w1 hw) ?_
   refine qW.on (i + 1) ⟨h,by omega⟩ ?_
   exact gw6
  ·have i1:((i:Int) < (f.length:Int)) = False:=eq_false (by omega)
   obtain rfl:i = f.length:=by omega
   rw [List.take_length]
   refine gw7 (kk 5) (Yp i1 hfm) ?_
   refine qW.out () trivial ?_
   exact gw6
 intro _ _
 refine gw7 (kk 5) Y0 ?_
 exact gw8
end
section
def nxtH (h:Int):Int:=IntKind.u64.wrap (IntKind.u64.wrap (h * 6364136223846793005) + 1442695040888963407)
def nxtB (h:Int):Int:=wrap64 (bits BinOp.and IntKind.u64 (nxtH h / 8589934592) 16777215)
def nxtX (code:List Int) (i:Nat) (h:Int):Int:=if hi:i < code.length then wrap64 (nxtB h + code[i]) else nxtB h
def nxtF (code:List Int) (s:Nat × Int) (n:Int):Int × Nat × Int:=if n < 1 then (0,s) else ((nxtX code s.1 s.2).tmod n,if s.1 < code.length then s.1 + 1 else s.1,nxtH s.2)
theorem nxtB_bd (h:Int):0 ≤ nxtB h∧nxtB h ≤ 16777215:=by
 have h0:0 ≤ nxtH h∧nxtH h < 18446744073709551616:=by unfold nxtH IntKind.wrap;simp [IntKind.signed,IntKind.bits];omega
 have e:=bits_and_u64_nat (nxtH h / 8589934592).toNat 16777215 (by omega) (by omega)
 have e1:(((nxtH h / 8589934592).toNat:Nat):Int) = nxtH h / 8589934592:=by omega
 rw [e1] at e
 have hle:(nxtH h / 8589934592).toNat &&& 16777215 ≤ 16777215:=Nat.and_le_right
 unfold nxtB
 have e2:((16777215:Nat):Int) = 16777215:=rfl
 rw [e2] at e
 rw [e]
 unfold wrap64
 omega
theorem nxtX_bd {code:List Int} (hc:∀ c ∈ code,0 ≤ c∧c < 256) (i:Nat) (h:Int):0 ≤ nxtX code i h∧nxtX code i h ≤ 16777470:=by
 have h1:=nxtB_bd h
 unfold nxtX
 split
 ·rename_i hi
  have h2:=hc code[i] (List.getElem_mem _)
  unfold wrap64
  omega
 ·omega
theorem yH {code:List Int} (hc:∀ c ∈ code,0 ≤ c∧c < 256) (s:Nat × Int) (n:Int):0 ≤ (nxtF code s n).1∧((nxtF code s n).1 < n ∨ (n < 1∧(nxtF code s n).1 = 0)):=by
 unfold nxtF
 split
 ·rename_i h;exact ⟨Int.le_refl _,.inr ⟨h,rfl⟩⟩
 ·rename_i h
  have h1:=nxtX_bd hc s.1 s.2
  show 0 ≤ (nxtX code s.1 s.2).tmod n∧((nxtX code s.1 s.2).tmod n < n ∨ _)
  rw [Int.tmod_eq_emod_of_nonneg h1.1]
  exact ⟨Int.emod_nonneg _ (by omega),.inl (Int.emod_lt_of_pos _ (by omega))⟩
def Byt (w:World) (b:Nat) (oa:Option Addr) (code:List Int):Prop:=(∀ c ∈ code,0 ≤ c∧c < 256)∧(code = [] ∨ ∃ b2 off,oa = some ⟨b2,off,none⟩∧b2 ≠ b∧∀ i (h:i < code.length),w.cell? ⟨b2,off + i,none⟩ = some (.int .u8 code[i]))
theorem kI {w:World} {b k cap0:Nat} {ds:List Value} (hr:Row w (slv (some b) 1 cap0) k 1 ds (some b)) (j:Nat) (u:Value):Row (w.setCell ⟨b,j,none⟩ u) (slv (some b) 1 cap0) k 1 (ds.set j u) (some b):=(hr.store j u).1
theorem bel_set {w0:World} {w:World} {b:Nat} (h:Bel ⟨w0,fun c => c = b⟩ w) (j:Nat) (u:Value):Bel ⟨w0,fun c => c = b⟩ (w.setCell ⟨b,j,none⟩ u) :=
 ⟨h.os,h.tape,h.output,by simpa using h.size,fun k hk hn hy => (heap_setCell_other w ⟨b,j,none⟩ k u (fun e => hn e)).trans (h.block k hk hn hy)⟩
theorem row_drew {w:World} {b k cap0:Nat} {ds:List Value} (hr:Row w (slv (some b) 1 cap0) k 1 ds (some b)) (n:Nat):Row (w.drewN n) (slv (some b) 1 cap0) k 1 ds (some b):=hr
theorem bel_drew {w0:World} {w:World} {b:Nat} (h:Bel ⟨w0,fun c => c = b⟩ w) (n:Nat):Bel ⟨w0,fun c => c = b⟩ (w.drewN n):=⟨h.os,h.tape,h.output,h.size,h.block⟩
theorem vO (w:World) (b:Nat):Bel ⟨w,fun c => c = b⟩ w:=⟨rfl,rfl,rfl,Nat.le_refl _,fun _ _ _ _ => rfl⟩
def RetN (w:World) (b:Nat) (oa:Option Addr) (cap cap0:Nat) (code:List Int) (r:Int × Nat × Int) (e:Ending) (w':World):Prop :=
 e = .returned (.int .i64 r.1)∧Row w' (slv (some b) 1 cap0) 3 1 [.slice oa code.length cap,.int .i64 r.2.1,.int .u64 r.2.2] (some b)∧Bel ⟨w,fun c => c = b⟩ w'
theorem c_l01Next (w:World) (b:Nat) (oa:Option Addr) (code:List Int) (cap cap0:Nat) (s:Nat × Int) (n:Int) (hr:Row w (slv (some b) 1 cap0) 3 1 [.slice oa code.length cap,.int .i64 s.1,.int .u64 s.2] (some b)) (hB:Byt w b oa code) (hn:qB n) (hat:s.1 ≤ code.length) (hl:code.length ≤ 1000000000) :
  Calls Tryz.prog 82 #[.pointer (some ⟨b,0,none⟩),.int .i64 n] w (RetN w b oa cap cap0 code (nxtF code s n)):=by
 obtain ⟨i,h⟩:=s
 have c0:=hr.cells 0 _ rfl
 have c1:=hr.cells 1 _ rfl
 have c2:=hr.cells 2 _ rfl
 have f0:=hr.frozen 0
 have f1:=hr.frozen 1
 have f2:=hr.frozen 2
 have hlt:=hr.lt b rfl
 simp only at c0 c1 c2 hat
 have HR:=Lib.hid hr
 by_cases hn1:n < 1
 ·have hF:nxtF code (i,h) n = (0,i,h):=if_pos hn1
  rw [hF]
  clear hr hB hF
  go_enter Tryz.func82,Tryz.ntmps82
  go_wp2
  go_ret
  exact ⟨rfl,HR.out,vO w b⟩
 ·have hF:nxtF code (i,h) n = ((nxtX code i h).tmod n,if i < code.length then i + 1 else i,nxtH h):=if_neg hn1
  rw [hF]
  by_cases ha:i < code.length
  ·obtain ⟨b2,off,e,hne,hg⟩:=hB.2.resolve_left (fun e => by rw [e] at ha;cases ha)
   have hgi:=hg i ha
   clear hg
   have hc:=hB.1 code[i] (List.getElem_mem _)
   have hX:nxtX code i h = wrap64 (nxtB h + code[i]):=dif_pos ha
   rw [hX,if_pos ha]
   obtain ⟨c,hce⟩:∃ c,c = code[i]:=⟨_,rfl⟩
   rw [← hce] at hgi hc ⊢
   have hwc:wrap64 c = c:=by unfold wrap64;omega
   subst e
   clear hr hB hce hF hX
   go_enter Tryz.func82,Tryz.ntmps82
   go_wp2
   go_quiet (fail)
   go_wp2
   go_quiet (fail)
   go_wp2
   go_ret
   exact ⟨rfl,kI (row_drew (kI HR.out 2 _) _) 1 _,bel_set (bel_drew (bel_set (vO w b) 2 _) _) 1 _⟩
  ·have hX:nxtX code i h = nxtB h:=dif_neg ha
   rw [hX,if_neg ha]
   clear hr hB hF hX
   go_enter Tryz.func82,Tryz.ntmps82
   go_wp2
   go_quiet (fail)
   go_wp2
   go_ret
   exact ⟨rfl,row_drew (kI HR.out 2 _) _,bel_drew (bel_set (vO w b) 2 _) _⟩
theorem c_below (w:World) (b:Nat) (oa:Option Addr) (code:List Int) (cap cap0:Nat) (s:Nat × Int) (n:Int) (hr:Row w (slv (some b) 1 cap0) 3 1 [.slice oa code.length cap,.int .i64 s.1,.int .u64 s.2] (some b)) (hB:Byt w b oa code) (hn:qB n) (hat:s.1 ≤ code.length) (hl:code.length ≤ 1000000000) :
  Calls Tryz.prog 53 #[.pointer (some ⟨b,0,none⟩),.int .i64 n] w (RetN w b oa cap cap0 code (nxtF code s n)):=by
 obtain ⟨i,h⟩:=s
 have c0:=hr.cells 0 _ rfl
 have c1:=hr.cells 1 _ rfl
 have c2:=hr.cells 2 _ rfl
 have f0:=hr.frozen 0
 have f1:=hr.frozen 1
 have f2:=hr.frozen 2
 have hlt:=hr.lt b rfl
 simp only at c0 c1 c2 hat
 have HR:=Lib.hid hr
 by_cases hn1:n < 1
 ·have hF:nxtF code (i,h) n = (0,i,h):=if_pos hn1
  rw [hF]
  clear hr hB hF
  go_enter Tryz.func53,Tryz.ntmps53
  go_wp2
  go_ret
  exact ⟨rfl,HR.out,vO w b⟩
 ·have hF:nxtF code (i,h) n = ((nxtX code i h).tmod n,if i < code.length then i + 1 else i,nxtH h):=if_neg hn1
  rw [hF]
  by_cases ha:i < code.length
  ·obtain ⟨b2,off,e,hne,hg⟩:=hB.2.resolve_left (fun e => by rw [e] at ha;cases ha)
   have hgi:=hg i ha
   clear hg
   have hc:=hB.1 code[i] (List.getElem_mem _)
   have hX:nxtX code i h = wrap64 (nxtB h + code[i]):=dif_pos ha
   rw [hX,if_pos ha]
   obtain ⟨c,hce⟩:∃ c,c = code[i]:=⟨_,rfl⟩
   rw [← hce] at hgi hc ⊢
   have hwc:wrap64 c = c:=by unfold wrap64;omega
   subst e
   clear hr hB hce hF hX
   go_enter Tryz.func53,Tryz.ntmps53
   go_wp2
   go_quiet (fail)
   go_wp2
   go_quiet (fail)
   go_wp2
   go_ret
   exact ⟨rfl,kI (row_drew (kI HR.out 2 _) _) 1 _,bel_set (bel_drew (bel_set (vO w b) 2 _) _) 1 _⟩
  ·have hX:nxtX code i h = nxtB h:=dif_neg ha
   rw [hX,if_neg ha]
   clear hr hB hF hX
   go_enter Tryz.func53,Tryz.ntmps53
   go_wp2
   go_quiet (fail)
   go_wp2
   go_ret
   exact ⟨rfl,row_drew (kI HR.out 2 _) _,bel_drew (bel_set (vO w b) 2 _) _⟩
def hshS (m:Int) (h c:Int):Int:=IntKind.u64.wrap (IntKind.u64.wrap (IntKind.u64.wrap (h * 1099511628211) + c) + m)
def hshF (m h0:Int) (code:List Int):Int:=code.foldl (hshS m) h0
theorem hshF_snoc (m h0:Int) (code:List Int) (k:Nat) (h:k < code.length):hshF m h0 (code.take (k + 1)) = hshS m (hshF m h0 (code.take k)) code[k]:=by
 unfold hshF
 rw [List.take_succ_eq_append_getElem h,List.foldl_append];rfl
def RetP (w:World) (oa:Option Addr) (cap:Nat) (code:List Int) (h:Int) (e:Ending) (w':World):Prop :=
 e = .returned (.pointer (some ⟨w.heap.size,0,none⟩))∧Row w' (slv (some w.heap.size) 1 1) 3 1 [.slice oa code.length cap,.int .i64 0,.int .u64 h] (some w.heap.size)∧Below w.heap.size w w'
theorem cell_lt {w:World} {b off:Nat} {v:Value} (h:w.cell? ⟨b,off,none⟩ = some v):b < w.heap.size:=by
 rcases Nat.lt_or_ge b w.heap.size with h1|h1
 ·exact h1
 ·rw [World.cell?] at h
  simp [Array.getElem?_eq_none h1] at h
theorem byt_below {w w':World} {n b off:Nat} {v:Value} (hb:Below n w w') (hlt:b < n) (h:w.cell? ⟨b,off,none⟩ = some v):w'.cell? ⟨b,off,none⟩ = some v:=by
 rw [World.cell?] at h ⊢
 rw [hb.block b hlt]
 exact h
theorem c_l01From (w:World) (oa:Option Addr) (code:List Int) (cap:Nat) (hB:Byt w w.heap.size oa code) (hcap:code.length ≤ cap) (hnil:oa = none→cap = 0) (hl:code.length ≤ 1000000000) :
  Calls Tryz.prog 64 #[.slice oa code.length cap] w (RetP w oa cap code (hshF 11 (5381 + code.length) (code.take 4096))):=by
 unfold RetP
 have HB:=Lib.hid hB
 obtain ⟨h0,hh0⟩:∃ h0,h0 = 5381 + (code.length:Int):=⟨_,rfl⟩
 rw [← hh0]
 have HH:=Lib.hid hh0
 clear hB hh0
 go_enter Tryz.func64,Tryz.ntmps64
 go_wp2
 go_loopw [4] (fun i wr => ∃ k:Nat,k ≤ code.length∧k ≤ 4096∧i = .int .i64 k∧Row wr (slv (some w.heap.size) 1 1) 3 1 [.slice oa code.length cap,.int .i64 0,.int .u64 (hshF 11 h0 (code.take k))] (some w.heap.size)∧Below w.heap.size w wr) (fun i _ => code.length - (intOf i).toNat)
 case atStart =>
  refine ⟨0,Nat.zero_le _,Nat.zero_le _,rfl,?_,?_⟩
  ·rw [List.take_zero]
   show Row _ _ 3 1 [_,_,.int .u64 h0] _
   rw [HH.out]
   exact Row.lit w #[.slice oa code.length cap,.int .i64 0,.int .u64 _] _ 3 1 (by decide) rfl
  ·exact (Below.refl _ _).alloc (Nat.le_refl _) _
 case round =>
  obtain ⟨k,hk,hk2,rfl,hrow,hbel⟩:=hrel
  have c0:=hrow.cells 0 _ rfl
  have c2:=hrow.cells 2 _ rfl
  have f2:=hrow.frozen 2
  have hlt:=hrow.lt _ rfl
  have HR:=Lib.hid hrow
  have HL:=Lib.hid hbel
  clear hrow hbel
  by_cases hlt1:k < code.length
  ·by_cases hlt2:k < 4096
   ·have hB:=HB.out
    obtain ⟨b2,off,e,hne,hg⟩:=hB.2.resolve_left (fun e => by rw [e] at hlt1;cases hlt1)
    have hgi:=byt_below HL.out (cell_lt (hg k hlt1)) (hg k hlt1)
    have hc:=hB.1 code[k] (List.getElem_mem _)
    have hst:=hshF_snoc 11 h0 code k hlt1
    obtain ⟨c,hce⟩:∃ c,c = code[k]:=⟨_,rfl⟩
    rw [← hce] at hgi hc hst
    subst e
    have HS:=Lib.hid hst
    clear hB hg hce hst
    obtain ⟨h,hh⟩:∃ h,h = hshF 11 h0 (code.take k):=⟨_,rfl⟩
    rw [← hh] at HR HS c2
    clear hh
    go_wp2_with fail
    go_region
    go_wp2_with fail
    go_roundw
    case rel =>
     refine ⟨k + 1,by omega,by omega,by go_num,?_,?_⟩
     ·rw [HS.out]
      exact kI HR.out 2 _
     ·have hz:Below w.heap.size w (wr.setCell ⟨w.heap.size,2,none⟩ (.int .u64 (hshS 11 h c))):=HL.out.setCell (Nat.le_refl _) _
      exact ⟨hz.os,hz.tape,hz.output,hz.size,hz.block⟩
    case measure => simp [intOf];omega
   ·obtain rfl:k = 4096:=by omega
    go_wp2_with fail
    go_ret
    exact ⟨rfl,HR.out,HL.out⟩
  ·have e:code.take 4096 = code.take k:=by rw [List.take_of_length_le (by omega),List.take_of_length_le (by omega)]
   have HE:=Lib.hid e
   clear e
   go_wp2_with fail
   go_ret
   rw [HE.out]
   exact ⟨rfl,HR.out,HL.out⟩
theorem c_roll (w:World) (seed:Int) (hs:0 ≤ seed∧seed < 1000000) (oa:Option Addr) (code:List Int) (cap:Nat) (hB:Byt w w.heap.size oa code) (hcap:code.length ≤ cap) (hnil:oa = none→cap = 0) (hl:code.length ≤ 1000000000) :
  Calls Tryz.prog 12 #[.slice oa code.length cap,.int .u64 seed] w (RetP w oa cap code (hshF 5 (seed * 8111 + code.length) code)):=by
 unfold RetP
 have HB:=Lib.hid hB
 obtain ⟨h0,hh0⟩:∃ h0,h0 = seed * 8111 + (code.length:Int):=⟨_,rfl⟩
 rw [← hh0]
 have HH:=Lib.hid hh0
 clear hB hh0
 go_enter Tryz.func12,Tryz.ntmps12
 go_wp2
 go_loopw [6] (fun i wr => ∃ k:Nat,k ≤ code.length∧i = .int .i64 k∧Row wr (slv (some w.heap.size) 1 1) 3 1 [.slice oa code.length cap,.int .i64 0,.int .u64 (hshF 5 h0 (code.take k))] (some w.heap.size)∧Below w.heap.size w wr) (fun i _ => code.length - (intOf i).toNat)
 case atStart =>
  refine ⟨0,Nat.zero_le _,rfl,?_,?_⟩
  ·rw [List.take_zero]
   show Row _ _ 3 1 [_,_,.int .u64 h0] _
   rw [HH.out]
   exact Row.lit w #[.slice oa code.length cap,.int .i64 0,.int .u64 _] _ 3 1 (by decide) rfl
  ·exact (Below.refl _ _).alloc (Nat.le_refl _) _
 case round =>
  obtain ⟨k,hk,rfl,hrow,hbel⟩:=hrel
  have c0:=hrow.cells 0 _ rfl
  have c2:=hrow.cells 2 _ rfl
  have f2:=hrow.frozen 2
  have hlt:=hrow.lt _ rfl
  have HR:=Lib.hid hrow
  have HL:=Lib.hid hbel
  clear hrow hbel
  by_cases hlt1:k < code.length
  ·by_cases hlt2:k < code.length
   ·have hB:=HB.out
    obtain ⟨b2,off,e,hne,hg⟩:=hB.2.resolve_left (fun e => by rw [e] at hlt1;cases hlt1)
    have hgi:=byt_below HL.out (cell_lt (hg k hlt1)) (hg k hlt1)
    have hc:=hB.1 code[k] (List.getElem_mem _)
    have hst:=hshF_snoc 5 h0 code k hlt1
    obtain ⟨c,hce⟩:∃ c,c = code[k]:=⟨_,rfl⟩
    rw [← hce] at hgi hc hst
    subst e
    have HS:=Lib.hid hst
    clear hB hg hce hst
    obtain ⟨h,hh⟩:∃ h,h = hshF 5 h0 (code.take k):=⟨_,rfl⟩
    rw [← hh] at HR HS c2
    clear hh
    go_wp2_with fail
    go_region
    go_wp2_with fail
    go_roundw
    case rel =>
     refine ⟨k + 1,by omega,by go_num,?_,?_⟩
     ·rw [HS.out]
      exact kI HR.out 2 _
     ·have hz:Below w.heap.size w (wr.setCell ⟨w.heap.size,2,none⟩ (.int .u64 (hshS 5 h c))):=HL.out.setCell (Nat.le_refl _) _
      exact ⟨hz.os,hz.tape,hz.output,hz.size,hz.block⟩
    case measure => simp [intOf];omega
   ·exact absurd hlt1 hlt2
  ·have e:code.take k = code:=List.take_of_length_le (by omega)
   have HE:=Lib.hid e
   clear e
   go_wp2_with fail
   go_ret
   have hq:=HR.out
   rw [HE.out] at hq
   exact ⟨rfl,hq,HL.out⟩
end
section
structure AFnP (P:Program) (f:FuncId) (ds:List (List D)) (r:List D):Prop where
 call:∀ args w,(callFunc f args).run P w = .ok (.enter f args) w
 fn:∀ (A:Nat→Prop) w vs,(∀ b,A b→b < w.heap.size)→qN A w ds vs →
  Calls P f vs.toArray w (fun e w' => ∃ b ds',e = .returned (.pointer (some ⟨b,0,none⟩))∧w.heap.size ≤ b∧Below w.heap.size w w'∧Row w' (slv (some b) 1 1) r.length 1 ds' (some b)∧0 < r.length∧rdCs (fun c => (A c ∨ w.heap.size ≤ c)∧c ≠ b) w' ds' r)
section
variable {P:Program} {cfg:Cfg} {M:Nat→Prop} {ops:Array Oper} {s s':St} {w0:W0} {w:World} {Ok:Nat→Prop} {N:Nat} {σ:Asg} {a:Act} {fs:List Fr} {Q:Exit→St→Prop} {T:Tab P} {H:List (Nat × Obj)}
theorem rdR_one {A:Nat→Prop} {w:World} {k:Nat} {ds:List Value} {r:List D} (h:rdR k A w ds [r]):rdCs A w ds r:=by
 obtain ⟨c,e,rfl,_,_,h1,h2⟩:=h.cons_inv
 have he:e = []:=List.eq_nil_of_length_eq_zero (by rw [h2.len];simp)
 rw [he,List.append_nil];exact h1
theorem qV.callR (C:CfgOK P cfg) {o:Oper} {l:List Oper} {Q:St→Prop} (hg:o.guard = Option.none) {d:Nat} (hd:o.dst = some d) (hdN:d < cfg.N) {f:Operand} {args:Array Operand} {ts:Array TypeId} (ho:o.op = .call ⟨.value f,args,ts⟩) {g:FuncId} (hf:((opv s.regs f).bind avD).bind fnId = some g)
  {ds:List (List D)} (hds:aargs cfg (fun k => look k s.heap) s.regs args.toList ts.toList = some ds) (hs:qL s.regs args.toList = []) {r:List D} (hfn:AFnP P g ds r) (hfr:fresh s d = true) (h:∀ b,qV P cfg M ops l Q ⟨insR d (.optr d 0 0) s.regs,insR d (.pin (some b) 1 r.length [r]) s.heap⟩):qV P cfg M ops (o :: l) Q s:=by
 intro w0 Ok σ a w Q' hM hS hQ
 refine wpList_step (fun K hK => ?_)
 have hw:jQ ops s.regs o = some true:=by unfold jQ;rw [hg]
 rw [xH hS hw]
 simp only [if_true]
 obtain ⟨_,l2⟩:=kX C hS hds
 have hfv:a.eval f = .func (.func g) #[] #[]:=wI hS hf
 have hrun:(execOp a.eval o).run P w = .ok (.enter g (args.map a.eval)) w:=by
  unfold execOp
  rw [ho]
  simp [resolve,Deferred.ofValue,hfv,invoke,hfn.call]
 have hcall:=hfn.fn (Zn σ s.heap w) w (args.toList.map a.eval) (fun _ h => h.1) (l2 hs)
 unfold Oper.wp
 rw [hrun,Oper.upon_enter]
 have e:(args.toList.map a.eval).toArray = args.map a.eval:=by rw [← Array.toList_map,Array.toArray_toList]
 rw [← e]
 refine hcall.mono ?_
 rintro e w' ⟨b,ds',rfl,hb,hB,hrow,hk,hrd⟩
 have hfree:=xU hfr
 obtain ⟨σ',k0,k1,k2,hZ,hS'⟩:=hS.new hB d (.row r.length [r] false) hfree (some b) 1 [] ds' hrow hk (fun σ' hok hF hg' hgo hZ hst => by
  show rdR r.length (Zn σ' _ w') w' ds' [r]
  refine rdR.single hk rfl (hrd.mono (fun c hc hlt => ?_))
  rcases hc.1 with h1|h1
  ·exact (hZ c h1).1
  ·refine ⟨hlt,by rw [hok];exact hS.ok1 c (.inl (Nat.le_trans hS.below.size h1)),fun q u hq e => ?_⟩
   simp only [look] at hq
   by_cases hqd:d = q
   ·subst hqd
    rw [hg'] at e
    cases e
    exact hc.2 rfl
   ·rw [if_neg hqd] at hq
    rw [hgo q (fun e => hqd e.symm)] at e
    have:=yM hS hq c (qC e)
    omega) (fun c hc => by
   have hc:c ∈ [b] ++ []:=hc
   rw [List.append_nil,List.mem_singleton] at hc
   rw [hc];exact hb) (by simp)
 have hS2:=Sim.setObj hS' (key:=d) (u:=.row r.length [r] false) (ob:=.pin (some b) 1 r.length [r]) (by simp [look]) rfl rfl rfl (fun H' hm _ ds _ hel => by
  have hel:rdR r.length (Zn σ' _ w') w' ds [r]:=hel
  exact ⟨k1,k2,hel.mono (fun c hc _ => hm c hc)⟩)
 have hS3:Sim w0 Ok cfg.N σ' ⟨s.regs,insR d (.pin (some b) 1 r.length [r]) s.heap⟩ a w':=hS2.forget (fun _ _ h => h) (fun q o' ho' => by
  rw [jV] at ho'
  rw [jV]
  by_cases e:d = q
  ·rw [if_pos e] at ho' ⊢;exact ho'
  ·rw [if_neg e] at ho' ⊢
   simp only [look]
   rw [if_neg e];exact ho')
 show K (a.put o.dst _) _
 rw [hd]
 refine hK _ _ (h b w0 Ok σ' _ _ Q' hM (Sim.ins hS3 hdN ?_) hQ)
 intro o' ho'
 rw [jV,if_pos rfl] at ho'
 cases ho'
 exact ⟨Nat.zero_lt_one,b,k1,by simp⟩
end
def eU (c:Int):List D:=[.raw (.int .u8 c)]
def dCode (code:List Int):D:=.sl 1 (code.map eU)
def eCode (code:List Int):List D:=[dCode code]
def srcD (code:List Int) (s:Nat × Int):List D:=[.sl 1 (code.map eU),.int s.1,.raw (.int .u64 s.2)]
def jA (code:List Int):Prop:=∀ c ∈ code,0 ≤ c∧c < 256
theorem rdU {A:Nat→Prop} {w:World}:∀ {code:List Int} {ds:List Value} {d:Nat} {hk:0 < 1},rdL (RK 1 hk (RC d)) A w ds (code.map eU)→ds = code.map fun c => Value.int .u8 c
 | [],_,_,_,h => h
 | c :: code,ds,d,hk,⟨c1,d1,e,h1,h2⟩ => by
  obtain ⟨_,_,h3⟩:=h1
  have h3:=kL.1 h3
  have hc:c1 = [Value.int .u8 c]:=by
   have:rdV A w (c1.headD undef) (.raw (.int .u8 c)):=by
    obtain ⟨x,rfl⟩:∃ x,c1 = [x]:=by
     have:=(RC d).rd_len h3
     rw [RC_k] at this
     match c1,this with
     | [x],_ => exact ⟨x,rfl⟩
    exact ⟨d,h3⟩
   have hl:=(RC d).rd_len h3
   rw [RC_k] at hl
   match c1,hl,this with
   | [x],_,this => rw [show x = _ from (jL.1 this).1]
  rw [e,hc,rdU h2];rfl
theorem byt_of {A:Nat→Prop} {w:World} {v:Value} {code:List Int} {b:Nat} (hb:¬ A b) (hc:jA code) (h:rdV A w v (.sl 1 (code.map eU))):∃ oa cap,v = .slice oa code.length cap∧code.length ≤ cap∧cap ≤ maxLen∧(oa = none→cap = 0)∧Byt w b oa code:=by
 obtain ⟨oa,cap,ds,rfl,h1,h2,h3,h4,h5⟩:=yT.1 h
 rw [List.length_map] at h1 ⊢
 refine ⟨oa,cap,rfl,h1,h2,h3,hc,?_⟩
 obtain ⟨d,hk,h4⟩:=h4
 have e:=rdU h4
 rcases h5 with h5|⟨b2,off,h5,h6,h7⟩
 ·left
  rw [h5] at e
  cases code with
  | nil => rfl
  | cons => cases e
 ·by_cases hn:code = []
  ·exact .inl hn
  ·refine .inr ⟨b2,off,h5,fun e => hb (e ▸ h6),fun i hi => h7 i _ ?_⟩
   rw [e,List.getElem?_map,List.getElem?_eq_getElem hi];rfl
theorem yY {code:List Int} {s:Nat × Int} {n:Int} (h:s.1 ≤ code.length):(nxtF code s n).2.1 ≤ code.length:=by
 unfold nxtF
 split
 ·exact h
 ·show (if s.1 < code.length then s.1 + 1 else s.1) ≤ _
  split <;> omega
noncomputable def nxtG (code:List Int) (k:Nat) (xs:List (List D)) (post:List (List D)):Option (List Res × List (List D)):=by
 classical
 exact if h:∃ p:(Nat × Int) × Int,p.1.1 ≤ code.length∧k = 3∧xs = [srcD code p.1]∧post = [eI p.2] then some ([.val (.int (nxtF code h.choose.1 h.choose.2).1)],[srcD code (nxtF code h.choose.1 h.choose.2).2]) else none
noncomputable def nxtE (code:List Int):PinE:=⟨true,nxtG code⟩
theorem srcD_inj {code:List Int} {s s':Nat × Int} (h:srcD code s = srcD code s'):s = s':=by
 unfold srcD at h
 simp only [List.cons.injEq,D.int.injEq,D.raw.injEq,Value.int.injEq,true_and,and_true] at h
 exact Prod.ext (by omega) h.2
theorem xK (code:List Int) (s:Nat × Int) (n:Int) (h:s.1 ≤ code.length):nxtG code 3 [srcD code s] [eI n] = some ([.val (.int (nxtF code s n).1)],[srcD code (nxtF code s n).2]):=by
 unfold nxtG
 have hx:∃ p:(Nat × Int) × Int,p.1.1 ≤ code.length∧3 = 3∧[srcD code s] = [srcD code p.1]∧[eI n] = [eI p.2]:=⟨(s,n),h,rfl,rfl,rfl⟩
 rw [dif_pos hx]
 obtain ⟨_,_,h2,h3⟩:=hx.choose_spec
 have e1:=srcD_inj (List.cons.inj h2).1
 have e2:n = hx.choose.2:=by
  exact D.int.inj (List.cons.inj (List.cons.inj h3).1).1
 rw [← e1,← e2]
section
variable {P:Program} {f:FuncId} {code:List Int} (hc:jA code) (eg:∀ args w,(callFunc f args).run P w = .ok (.enter f args) w)
 (hw:∀ (w:World) (b:Nat) (oa:Option Addr) (cap cap0:Nat) (s:Nat × Int) (n:Int),Row w (slv (some b) 1 cap0) 3 1 [.slice oa code.length cap,.int .i64 s.1,.int .u64 s.2] (some b)→Byt w b oa code→qB n→s.1 ≤ code.length→code.length ≤ 1000000000 →
  Calls P f #[.pointer (some ⟨b,0,none⟩),.int .i64 n] w (RetN w b oa cap cap0 code (nxtF code s n)))
include hc eg hw
theorem nxt_ok (hl:code.length ≤ 1000000000) (k:Nat) (xs:List (List D)) (post:List (List D)) (x:List Res × List (List D)) (hx:(nxtE code).fn k xs post = some x):AEp P f (nxtE code).ptr k xs post (fun rs xs' => rs = x.1∧xs' = x.2):=by
 have hx:nxtG code k xs post = some x:=hx
 have key:∃ (s:Nat × Int) (n:Int),s.1 ≤ code.length∧k = 3∧xs = [srcD code s]∧post = [eI n]:=by
  unfold nxtG at hx
  split at hx
  ·rename_i h;obtain ⟨p,h1,h2,h3,h4⟩:=h;exact ⟨p.1,p.2,h1,h2,h3,h4⟩
  ·cases hx
 obtain ⟨s,n,h1,rfl,rfl,rfl⟩:=key
 rw [xK code s n h1] at hx
 cases hx
 refine ⟨eg,fun A w us og cap0 ds hA hu hrow hk hrd hb => ?_⟩
 obtain ⟨b,hog⟩:=hrow.some_of (j:=0) Nat.zero_lt_one
 subst hog
 obtain ⟨cap1,hcv,_,_⟩:=hrow.slice
 have hb:=hb b rfl
 obtain ⟨u,us',rfl,hu1,hu2⟩:=hu
 have hu2:us' = []:=hu2
 subst hu2
 obtain ⟨rfl,hn⟩:=qO.1 hu1
 have hrd:=rdR_one hrd
 obtain ⟨v0,ds1,rfl,hv0,hrd⟩:=hrd.cons_inv
 obtain ⟨v1,ds2,rfl,hv1,hrd⟩:=hrd.cons_inv
 obtain ⟨v2,ds3,rfl,hv2,hrd⟩:=hrd.cons_inv
 have hd3:ds3 = []:=List.eq_nil_of_length_eq_zero hrd.len
 subst hd3
 obtain ⟨rfl,hi⟩:=qO.1 hv1
 obtain ⟨rfl,_⟩:=jL.1 hv2
 obtain ⟨oa,cap,rfl,hcap,hcm,hnil,hB⟩:=byt_of hb hc hv0
 refine (hw w b oa cap cap0 s n hrow hB hn h1 hl).mono ?_
 rintro e w' ⟨rfl,hrow',hbel⟩
 have hbd:=yH hc s n
 have hin:qB (nxtF code s n).1:=by unfold qB at hn ⊢;omega
 have hat:=yY (n:=n) h1
 refine ⟨_,_,_,[.slice oa code.length cap,.int .i64 (nxtF code s n).2.1,.int .u64 (nxtF code s n).2.2],[.int .i64 (nxtF code s n).1],[],[],rfl,⟨rfl,rfl⟩,⟨hbel.os,hbel.tape,hbel.output,hbel.size,fun c hc hne hy => hbel.block c hc (fun e => hne (by show some b = some c;rw [show c = b from e])) hy⟩,rfl,List.nodup_nil,(by simp),?_,rfl,hrow',?_⟩
 ·exact ⟨_,[],[],[],[],[],rfl,rfl,rfl,rfl,⟨qO.2 ⟨rfl,hin⟩,rfl,rfl⟩,rfl,rfl,rfl⟩
 ·refine rdR.single (by decide) rfl (.cons ((hv0.frame (fun c hA' hlt => hbel.block c hlt (fun e => hb (e ▸ hA')) (fun h => h))).mono (fun c hA' _ => ⟨.inl hA',by simp,fun e => hb (by cases e;exact hA')⟩)) (.cons (qO.2 ⟨rfl,?_⟩) (.cons (jL.2 ⟨rfl,rfl⟩) .nil)))
  unfold qB;omega
end
section
variable {P:Program} {f:FuncId} {code:List Int} (hc:jA code)
include hc
theorem frm_ok (eg:∀ args w,(callFunc f args).run P w = .ok (.enter f args) w) {xs:List (List D)} {us0:List Value} (hxs:∀ A w us,qN A w xs us→us = us0) {h:Int}
  (hw:∀ (w:World) (oa:Option Addr) (cap:Nat),Byt w w.heap.size oa code→code.length ≤ cap→(oa = none→cap = 0)→Calls P f (.slice oa code.length cap :: us0).toArray w (RetP w oa cap code h)) :
  AFnP P f (eCode code :: xs) (srcD code (0,h)):=by
 refine ⟨eg,fun A w vs hA hv => ?_⟩
 obtain ⟨v,us,rfl,hv1,hv2⟩:=hv
 obtain rfl:=hxs _ _ _ hv2
 have hv1:rdV A w v (.sl 1 (code.map eU)):=hv1
 obtain ⟨oa,cap,rfl,hcap,hcm,hnil,hB⟩:=byt_of (b:=w.heap.size) (fun h => Nat.lt_irrefl _ (hA _ h)) hc hv1
 refine (hw w oa cap hB hcap hnil).mono ?_
 rintro e w' ⟨rfl,hrow,hbel⟩
 refine ⟨_,_,rfl,Nat.le_refl _,hbel,hrow,(by show 0 < 3;omega),?_⟩
 refine .cons ((hv1.frame (fun c hA' hlt => hbel.block c hlt)).mono (fun c hA' _ => ⟨.inl hA',by have:=hA c hA';omega⟩)) (.cons (qO.2 ⟨rfl,by unfold qB;omega⟩) (.cons (jL.2 ⟨rfl,rfl⟩) .nil))
end
theorem qB0 {code:List Int} (hc:jA code) (hl:code.length ≤ 1000000000) (k:Nat) (xs:List (List D)) (post:List (List D)) (x:List Res × List (List D)) (hx:(nxtE code).fn k xs post = some x):AEp Tryz.prog 82 (nxtE code).ptr k xs post (fun rs xs' => rs = x.1∧xs' = x.2) :=
 nxt_ok hc (enters_of Tryz.func82 rfl rfl) (fun w b oa cap cap0 s n h1 h2 h3 h4 h5 => c_l01Next w b oa code cap cap0 s n h1 h2 h3 h4 h5) hl k xs post x hx
theorem nxt_below {code:List Int} (hc:jA code) (hl:code.length ≤ 1000000000) (k:Nat) (xs:List (List D)) (post:List (List D)) (x:List Res × List (List D)) (hx:(nxtE code).fn k xs post = some x):AEp Tryz.prog 53 (nxtE code).ptr k xs post (fun rs xs' => rs = x.1∧xs' = x.2) :=
 nxt_ok hc (enters_of Tryz.func53 rfl rfl) (fun w b oa cap cap0 s n h1 h2 h3 h4 h5 => c_below w b oa code cap cap0 s n h1 h2 h3 h4 h5) hl k xs post x hx
def src0 (code:List Int):Nat × Int:=(0,hshF 11 (5381 + code.length) (code.take 4096))
def dice0 (seed:Int) (code:List Int):Nat × Int:=(0,hshF 5 (seed * 8111 + code.length) code)
theorem p_l01From {code:List Int} (hc:jA code) (hl:code.length ≤ 1000000000):AFnP Tryz.prog 64 [eCode code] (srcD code (src0 code)) :=
 frm_ok (xs:=[]) hc (enters_of Tryz.func64 rfl rfl) (us0:=[]) (fun _ _ _ h => h) (fun w oa cap h1 h2 h3 => c_l01From w oa code cap h1 h2 h3 hl)
theorem p_roll {code:List Int} (hc:jA code) (hl:code.length ≤ 1000000000) (seed:Int) (hs:0 ≤ seed∧seed < 1000000):AFnP Tryz.prog 12 [eCode code,[.raw (.int .u64 seed)]] (srcD code (dice0 seed code)) :=
 frm_ok (xs:=[[.raw (.int .u64 seed)]]) hc (enters_of Tryz.func12 rfl rfl) (us0:=[.int .u64 seed]) (fun A w us h => by
  obtain ⟨v,us',rfl,h1,h2⟩:=h
  have h2:us' = []:=h2
  rw [h2,(jL.1 h1).1]) (fun w oa cap h1 h2 h3 => c_roll w seed hs oa code cap h1 h2 h3 hl)
end
section
theorem EndsP.mk {P:Program} {cfg:Cfg} {M:Nat→Prop} {fn:Func} {Q0:List Res→List (List D)→Prop} {og:Option Nat} {cap k n:Nat} {e:Exit} {s:St} {rs:List Res} {ks:List Nat} {xs':List (List D)} (he:e = .normal ∨ e = .ret) {rvs:List ResultVar} {ts:List TypeId} (h1:fn.results.toList = rvs) (h2:fn.resultTypes.toList = ts)
  (h:jT cfg s rvs ts = some (rs,ks)) (hk:ks.Nodup) (hz:0 ∉ ks) (hl:look 0 s.heap = some (.pin og cap k xs')) (hq:xs'.length = n∧Q0 rs xs'):outK P cfg M [] (EndsP cfg fn Q0 og cap k n) e s:=⟨he,rs,ks,xs',by rw [h1,h2];exact h,hk,hz,hl,hq.1,hq.2⟩
theorem srcD_len (code:List Int) (s:Nat × Int):(srcD code s).length = 3:=rfl
noncomputable def drwG (code:List Int) (F:(Nat × Int)→List (List D)→Option (List Res × (Nat × Int))) (k:Nat) (xs:List (List D)) (post:List (List D)):Option (List Res × List (List D)):=by
 classical
 exact if h:∃ s:Nat × Int,s.1 ≤ code.length∧k = 3∧xs = [srcD code s] then (F h.choose post).map (fun p => (p.1,[srcD code p.2])) else none
noncomputable def drwE (code:List Int) (F:(Nat × Int)→List (List D)→Option (List Res × (Nat × Int))):PinE:=⟨true,drwG code F⟩
theorem drwG_eq {code:List Int} {F:(Nat × Int)→List (List D)→Option (List Res × (Nat × Int))} {s:Nat × Int} (h:s.1 ≤ code.length) {post:List (List D)}:drwG code F 3 [srcD code s] post = (F s post).map (fun p => (p.1,[srcD code p.2])):=by
 unfold drwG
 have hx:∃ s':Nat × Int,s'.1 ≤ code.length∧3 = 3∧[srcD code s] = [srcD code s']:=⟨s,h,rfl,rfl⟩
 rw [dif_pos hx]
 obtain ⟨_,_,h2⟩:=hx.choose_spec
 rw [← srcD_inj (List.cons.inj h2).1]
def DrawsE (P:Program) (f:FuncId) (code:List Int) (F:(Nat × Int)→List (List D)→Option (List Res × (Nat × Int))):Prop :=
 ∀ s post rs s',s.1 ≤ code.length→F s post = some (rs,s')→AEp P f true 3 [srcD code s] post (fun r x => r = rs∧x = [srcD code s'])
theorem DrawsE.ok {P:Program} {f:FuncId} {code:List Int} {F:(Nat × Int)→List (List D)→Option (List Res × (Nat × Int))} (H:DrawsE P f code F) (k:Nat) (xs:List (List D)) (post:List (List D)) (x:List Res × List (List D)) (hx:(drwE code F).fn k xs post = some x):AEp P f (drwE code F).ptr k xs post (fun rs xs' => rs = x.1∧xs' = x.2):=by
 have hx:drwG code F k xs post = some x:=hx
 unfold drwG at hx
 split at hx
 ·rename_i h
  obtain ⟨h1,h2,h3⟩:=h.choose_spec
  obtain ⟨p,hp,e⟩:=Option.map_eq_some_iff.1 hx
  subst h2
  rw [h3,← e]
  exact H _ _ _ _ h1 hp
 ·cases hx
def drw1 (G:(Nat × Int)→Int→List Res × (Nat × Int)) (s:Nat × Int):List (List D)→Option (List Res × (Nat × Int))
 | [[.int m]] => if -1000 ≤ m∧m ≤ 1000 then some (G s m) else none
 | _ => none
theorem vK {code:List Int} {G:(Nat × Int)→Int→List Res × (Nat × Int)} {s:Nat × Int} (h:s.1 ≤ code.length) {m:Int} (hm:-1000 ≤ m∧m ≤ 1000):drwG code (drw1 G) 3 [srcD code s] [[.int m]] = some ((G s m).1,[srcD code (G s m).2]):=by
 rw [drwG_eq h]
 show Option.map _ (if -1000 ≤ m∧m ≤ 1000 then some (G s m) else none) = _
 rw [if_pos hm];rfl
theorem drw1_of {P:Program} {f:FuncId} {code:List Int} {G:(Nat × Int)→Int→List Res × (Nat × Int)} (h:∀ s m,s.1 ≤ code.length→-1000 ≤ m→m ≤ 1000→AEp P f true 3 [srcD code s] [[.int m]] (fun r x => r = (G s m).1∧x = [srcD code (G s m).2])):DrawsE P f code (drw1 G):=by
 intro s post rs s' hs hp
 unfold drw1 at hp
 split at hp
 ·rename_i m
  split at hp
  ·rename_i hm
   have e:=Option.some.inj hp
   have e1:rs = (G s m).1:=by rw [e]
   have e2:s' = (G s m).2:=by rw [e]
   subst e1;subst e2
   exact h s m hs hm.1 hm.2
  ·cases hp
 ·cases hp
def growD (code:List Int):Nat→(Nat × Int)→List Int→List Int × (Nat × Int)
 | 0,s,t => (t,s)
 | k + 1,s,t => growD code k (nxtF code s (t.getLastD 0 + 1)).2 (t ++ [1 + (nxtF code s (t.getLastD 0 + 1)).1])
def drawF (code:List Int) (s:Nat × Int) (m:Int):List Int × (Nat × Int):=growD code (nxtF code s m).1.toNat (nxtF code s m).2 [0]
structure TOk (n:Nat) (t:List Int):Prop where
 pos:t ≠ []
 lev:qY t
 len:t.length ≤ n
 bd:∀ x ∈ t,0 ≤ x∧x < t.length
theorem jB0 {t:List Int} (h:t ≠ []):t.getLastD 0 ∈ t:=by
 cases t with
 | nil => exact absurd rfl h
 | cons a t => rw [List.getLastD_cons];exact (by cases t <;> simp [List.getLastD])
theorem getLastD_getD {t:List Int} (h:t ≠ []):t.getLastD 0 = t.getD (t.length - 1) 0:=by
 rw [List.getD_eq_getElem?_getD,← List.getLast?_eq_getElem?]
 cases t with
 | nil => exact absurd rfl h
 | cons a t => rw [List.getLast?_cons,List.getLastD_cons,← List.getLastD_eq_getLast?];rfl
theorem wH {code:List Int} (hc:jA code):∀ (k:Nat) {s:Nat × Int} {t:List Int} {n:Nat},TOk n t→s.1 ≤ code.length→TOk (n + k) (growD code k s t).1∧(growD code k s t).2.1 ≤ code.length
 | 0,_,_,_,h,hs => ⟨h,hs⟩
 | k + 1,s,t,n,h,hs => by
  have hl:=h.bd _ (jB0 h.pos)
  have hb:=yH hc s (t.getLastD 0 + 1)
  have h1:TOk (n + 1) (t ++ [1 + (nxtF code s (t.getLastD 0 + 1)).1]):=⟨by simp,h.lev.snoc (by omega) (by rw [← getLastD_getD h.pos];omega),by have:=h.len;simp;omega,fun x hx => by
   rw [List.length_append,List.length_singleton]
   rcases List.mem_append.1 hx with hx|hx
   ·have:=h.bd x hx;omega
   ·rw [List.mem_singleton] at hx;subst hx;omega⟩
  have:=wH hc k h1 (yY (n:=t.getLastD 0 + 1) hs)
  rw [show n + (k + 1) = n + 1 + k by omega]
  exact this
theorem vF {code:List Int} (hc:jA code) {s:Nat × Int} {m:Int} (hs:s.1 ≤ code.length):TOk (1 + m.toNat) (drawF code s m).1∧(drawF code s m).2.1 ≤ code.length:=by
 have hb:=yH hc s m
 have h:=wH hc (nxtF code s m).1.toNat (s:=(nxtF code s m).2) (t:=[0]) (n:=1) ⟨by simp,by decide,by simp,by simp⟩ (yY hs)
 exact ⟨⟨h.1.pos,h.1.lev,Nat.le_trans h.1.len (by omega),h.1.bd⟩,h.2⟩
theorem drawF_len {code:List Int} (hc:jA code) {s:Nat × Int} {m:Int} (hs:s.1 ≤ code.length) (hm:1 ≤ m):(drawF code s m).1.length ≤ m.toNat:=by
 have hb:=yH hc s m
 have h:=wH hc (nxtF code s m).1.toNat (s:=(nxtF code s m).2) (t:=[0]) (n:=1) ⟨by simp,by decide,by simp,by simp⟩ (yY hs)
 exact Nat.le_trans h.1.len (by omega)
def drawG (code:List Int) (s:Nat × Int) (m:Int):List Res × (Nat × Int):=([.own 1 ((drawF code s m).1.map eI) true],(drawF code s m).2)
theorem p_l03Draw {code:List Int} (hc:jA code) (hl:code.length ≤ 1000000000):DrawsE Tryz.prog 126 code (drw1 (drawG code)):=by
 refine drw1_of fun s m hs hm1 hm2 => ?_
 have hpin:=qB0 hc hl
 have hdr:=xK code s m hs
 have hbd:=yH hc s m
 have hat:=yY (n:=m) hs
 unfold drawG drawF
 obtain ⟨⟨kk,s1⟩,hp⟩:∃ p,p = nxtF code s m:=⟨_,rfl⟩
 rw [← hp] at hdr hbd hat ⊢
 simp only at hdr hbd hat ⊢
 obtain ⟨k,rfl⟩:∃ k:Nat,kk = k:=⟨kk.toNat,by omega⟩
 rw [Int.toNat_natCast]
 have hk:k ≤ 1000:=by omega
 simp only [eI] at hdr
 refine AEp.of_runs (qX 29) Tryz.func126 rfl rfl rfl (fun _ => rfl) gz ?_
 have hres:Tryz.f126.results.toList = [.tmp 4]:=rfl
 have hrts:Tryz.f126.resultTypes.toList = [24]:=rfl
 simp only [List.length_cons,List.length_nil,yJ,if_true,qK,qA,eL,eI,eLL,eB,Nat.zero_add,Nat.reduceAdd]
 intro M og cap
 refine qQ.of ?_
 refine gw90 (kk 7) hdr ?_
 refine qQ.loop (β:=Nat × (Nat × Int) × List Int) (γ:=List Int × (Nat × Int)) (fun x => ⟨[(0,.optr 0 0 0),(5,.c (.own 5 x.2.2.length)),(6,.c (.val (.int x.1)))],[(0,.pin og cap 3 [srcD code x.2.1]),(5,.row 1 (x.2.2.map eI) true)]⟩)
  (fun x => x.1 ≤ k∧x.2.1.1 ≤ code.length∧TOk (1 + (k - x.1)) x.2.2∧growD code x.1 x.2.1 x.2.2 = growD code k s1 [0]) (fun x => x.1)
  (fun z => ⟨[(0,.optr 0 0 0),(5,.c (.own 5 z.1.length))],[(0,.pin og cap 3 [srcD code z.2]),(5,.row 1 (z.1.map eI) true)]⟩) (fun z => z = growD code k s1 [0]) (k,s1,[0]) ⟨Nat.le_refl _,hat,⟨by simp,by show qY [0];decide,by simp,by simp⟩,rfl⟩ ?_ ?_ ?_
 ·exact gw91
 ·rintro ⟨j,s,t⟩ ⟨hj,hs,ht,hgr⟩
  simp only at hj hs ht hgr
  by_cases h0:0 < j
  ·obtain ⟨j,rfl⟩:∃ i,j = i + 1:=⟨j - 1,by omega⟩
   have i1:(((j + 1:Nat):Int) > 0) = True:=eq_true (by omega)
   have hlb:=ht.bd _ (jB0 ht.pos)
   have htl:=ht.len
   have htp:0 < t.length:=List.length_pos_iff.2 ht.pos
   have hdr:=xK code s (t.getLastD 0 + 1) hs
   have hbd:=yH hc s (t.getLastD 0 + 1)
   have hat:=yY (n:=t.getLastD 0 + 1) hs
   have hgr:growD code j (nxtF code s (t.getLastD 0 + 1)).2 (t ++ [1 + (nxtF code s (t.getLastD 0 + 1)).1]) = growD code k s1 [0]:=hgr
   have hnext:=(wH hc 1 ht hs).1
   have hnext:TOk (1 + (k - (j + 1)) + 1) (t ++ [1 + (nxtF code s (t.getLastD 0 + 1)).1]):=hnext
   obtain ⟨⟨x,s2⟩,hp⟩:∃ p,p = nxtF code s (t.getLastD 0 + 1):=⟨_,rfl⟩
   rw [← hp] at hdr hbd hat hgr hnext
   simp only at hdr hbd hat hgr hnext
   simp only [eI] at hdr
   have hlm:(t.map eI).length = t.length:=List.length_map _
   have i2:((0:Int) ≤ (t.length:Int) - 1) = True:=eq_true (by omega)
   have i3:((t.length:Int) - 1 < (t.length:Int)) = True:=eq_true (by omega)
   have w1:w64 ((t.length:Int) - 1) = (t.length:Int) - 1:=qR (by omega)
   have w2:w64 (t.getLastD 0 + 1) = t.getLastD 0 + 1:=qR (by omega)
   have w3:w64 (1 + x) = 1 + x:=qR (by omega)
   have w4:w64 (((j + 1:Nat):Int) - 1) = j:=by rw [qR (by omega)];omega
   have hg:(t.map eI)[((t.length:Int) - 1).toNat]? = some [.int (t.getLastD 0)]:=by
    have e:((t.length:Int) - 1).toNat = t.length - 1:=by omega
    rw [e,List.getElem?_map,← List.getLast?_eq_getElem?]
    cases t with
    | nil => exact absurd rfl ht.pos
    | cons a t => rw [List.getLast?_cons,List.getLastD_cons,← List.getLastD_eq_getLast?];rfl
   have q1:=jS (n:=t.length + 1) (by omega)
   have q2:=jO (n:=t.length + 1) (c:=8) (by omega) (by omega)
   refine gw90 (kk 7) (Y12 hdr i1 i2 i3 w1 w2 w3 w4 hg hlm q1 q2) ?_
   refine qW.on (j,s2,t ++ [1 + x]) ⟨⟨by omega,hat,by rw [show 1 + (k - j) = 1 + (k - (j + 1)) + 1 by omega];exact hnext,hgr⟩,by simp⟩ ?_
   exact gw92
  ·obtain rfl:j = 0:=by omega
   have i1:(((0:Nat):Int) > 0) = False:=eq_false (by omega)
   refine gw7 (kk 7) i1 ?_
   refine qW.out (t,s) hgr ?_
   exact gw91
 rintro z rfl
 refine gw7 (kk 7) Y0 ?_
 exact gw93
def xV (code:List Int) (s:Nat × Int) (m:Int):List Int × (Nat × Int) :=
 let p:=drawF code s m
 let c:=nxtF code p.2 24
 if c.1 = 0 then
  let i:=nxtF code c.2 p.1.length
  let v:=nxtF code i.2 6
  (p.1.set i.1.toNat (v.1 - 1),v.2)
 else if c.1 = 1 then ([],c.2)
 else if c.1 = 2 then (p.1 ++ List.replicate 8 1,c.2)
 else (p.1,c.2)
structure AOk (n:Nat) (t:List Int):Prop where
 len:t.length ≤ n
 bd:∀ x ∈ t,-1 ≤ x∧x ≤ n
theorem drawAnyF_ok {code:List Int} (hc:jA code) {s:Nat × Int} {m:Int} (hs:s.1 ≤ code.length):AOk (9 + m.toNat) (xV code s m).1∧(xV code s m).2.1 ≤ code.length:=by
 obtain ⟨h1,h2⟩:=vF hc (m:=m) hs
 unfold xV
 obtain ⟨p,hp⟩:∃ p,p = drawF code s m:=⟨_,rfl⟩
 rw [← hp] at h1 h2 ⊢
 simp only
 have hl:=h1.len
 have ha:AOk (9 + m.toNat) p.1:=⟨by omega,fun x hx => by have:=h1.bd x hx;omega⟩
 have h3:=yY (n:=24) h2
 have hcb:=yH hc p.2 24
 obtain ⟨c,hcd⟩:∃ c,c = nxtF code p.2 24:=⟨_,rfl⟩
 rw [← hcd] at h3 hcb ⊢
 split
 ·have h4:=yY (n:=(p.1.length:Int)) h3
  have h5:=yY (n:=6) h4
  have h6:=yH hc (nxtF code c.2 p.1.length).2 6
  refine ⟨⟨by simp;omega,fun x hx => ?_⟩,h5⟩
  rcases List.mem_or_eq_of_mem_set hx with hx|hx
  ·exact ha.bd x hx
  ·omega
 ·split
  ·exact ⟨⟨by simp,by simp⟩,h3⟩
  ·split
   ·refine ⟨⟨by simp;omega,fun x hx => ?_⟩,h3⟩
    rcases List.mem_append.1 hx with hx|hx
    ·exact ha.bd x hx
    ·rw [List.eq_of_mem_replicate hx];omega
   ·exact ⟨ha,h3⟩
def drawAnyG (code:List Int) (s:Nat × Int) (m:Int):List Res × (Nat × Int):=([.own 1 ((xV code s m).1.map eI) true],(xV code s m).2)
theorem p_l03DrawAny {code:List Int} (hc:jA code) (hl:code.length ≤ 1000000000):DrawsE Tryz.prog 127 code (drw1 (drawAnyG code)):=by
 refine drw1_of fun s m hs hm1 hm2 => ?_
 have hpin:=qB0 hc hl
 have hdw:=(p_l03Draw hc hl).ok
 have hdt:drwG code (drw1 (drawG code)) 3 [srcD code s] [[.int m]] = some ([.own 1 ((drawF code s m).1.map eI) true],[srcD code (drawF code s m).2]):=vK hs ⟨hm1,hm2⟩
 obtain ⟨h1,h2⟩:=vF hc (m:=m) hs
 have hdr:=xK code (drawF code s m).2 24 h2
 have hbd:=yH hc (drawF code s m).2 24
 have hat:=yY (n:=24) h2
 unfold drawAnyG xV
 obtain ⟨⟨t,s1⟩,hp⟩:∃ p,p = drawF code s m:=⟨_,rfl⟩
 rw [← hp] at h1 h2 hdr hbd hat hdt ⊢
 simp only at h1 h2 hdr hbd hat hdt ⊢
 obtain ⟨⟨c,s2⟩,hq⟩:∃ p,p = nxtF code s1 24:=⟨_,rfl⟩
 rw [← hq] at hdr hbd hat ⊢
 simp only at hdr hbd hat ⊢
 have htl:=h1.len
 have htp:0 < t.length:=List.length_pos_iff.2 h1.pos
 have hlm:(t.map eI).length = t.length:=List.length_map _
 simp only [eI] at hdr
 by_cases c0:c = 0
 ·subst c0
  have hdr2:=xK code s2 t.length hat
  have hbd2:=yH hc s2 t.length
  have hat2:=yY (n:=(t.length:Int)) hat
  obtain ⟨⟨i,s3⟩,hq2⟩:∃ p,p = nxtF code s2 t.length:=⟨_,rfl⟩
  rw [← hq2] at hdr2 hbd2 hat2 ⊢
  simp only at hdr2 hbd2 hat2 ⊢
  have hdr3:=xK code s3 6 hat2
  have hbd3:=yH hc s3 6
  obtain ⟨⟨v,s4⟩,hq3⟩:∃ p,p = nxtF code s3 6:=⟨_,rfl⟩
  rw [← hq3] at hdr3 hbd3 ⊢
  simp only [eI,if_true] at hdr2 hdr3 hbd3 ⊢
  have i1:((0:Int) ≤ i) = True:=eq_true (by omega)
  have i2:(i < (t.length:Int)) = True:=eq_true (by omega)
  have w1:w64 (v - 1) = v - 1:=qR (by omega)
  have hst:(t.set i.toNat (v - 1)).map eI = (t.map eI).set i.toNat [.int (v - 1)]:=by rw [List.map_set];rfl
  have hil:i.toNat < t.length:=by omega
  have hg:(t.map eI)[i.toNat]? = some [.int t[i.toNat]]:=by rw [List.getElem?_map,List.getElem?_eq_getElem hil];rfl
  rw [hst]
  refine AEp.of_runs (qX 35) Tryz.func127 rfl rfl rfl (fun _ => rfl) gz ?_
  have hres:Tryz.f127.results.toList = [.tmp 4]:=rfl
  have hrts:Tryz.f127.resultTypes.toList = [24]:=rfl
  simp only [List.length_cons,List.length_nil,yJ,if_true,qK,qA,eL,eI,eLL,eB,Nat.zero_add,Nat.reduceAdd]
  intro M og cap
  refine qQ.of ?_
  refine gw94 (kk 12) (Y9 hdr hdr2 hdr3 hdt i1 i2 w1 hlm hg) ?_
  exact gw93
 ·have e0:(c == 0) = false:=by simp [c0]
  by_cases c1:c = 1
  ·subst c1
   rw [if_neg c0,if_pos rfl]
   refine AEp.of_runs (qX 35) Tryz.func127 rfl rfl rfl (fun _ => rfl) gz ?_
   have hres:Tryz.f127.results.toList = [.tmp 4]:=rfl
   have hrts:Tryz.f127.resultTypes.toList = [24]:=rfl
   simp only [List.length_cons,List.length_nil,yJ,if_true,qK,qA,eL,eI,eLL,eB,Nat.zero_add,Nat.reduceAdd]
   intro M og cap
   refine qQ.of ?_
   refine gw94 (kk 12) (Y4 hdr hdt e0 hlm) ?_
   exact gw93
  ·by_cases c2:c = 2
   ·subst c2
    rw [if_neg c0,if_neg c1,if_pos rfl]
    refine AEp.of_runs (qX 35) Tryz.func127 rfl rfl rfl (fun _ => rfl) gz ?_
    have hres:Tryz.f127.results.toList = [.tmp 4]:=rfl
    have hrts:Tryz.f127.resultTypes.toList = [24]:=rfl
    simp only [List.length_cons,List.length_nil,yJ,if_true,qK,qA,eL,eI,eLL,eB,Nat.zero_add,Nat.reduceAdd]
    intro M og cap
    refine qQ.of ?_
    refine gw94 (kk 12) (Y4 hdr hdt e0 hlm) ?_
    refine qQ.loop (β:=Nat) (γ:=Unit) (fun j => ⟨[(0,.optr 0 0 0),(5,.c (.own 5 (t.length + j))),(6,.c (.val (.int j)))],[(0,.pin og cap 3 [srcD code s2]),(5,.row 1 ((t ++ List.replicate j 1).map eI) true)]⟩) (fun j => j ≤ 8) (fun j => 8 - j)
     (fun _ => ⟨[(0,.optr 0 0 0),(5,.c (.own 5 (t.length + 8)))],[(0,.pin og cap 3 [srcD code s2]),(5,.row 1 ((t ++ List.replicate 8 1).map eI) true)]⟩) (fun _ => True) 0 (Nat.zero_le _) ?_ ?_ ?_
    ·exact gw95
    ·intro j hj
     have hj:j ≤ 8:=hj
     have hw:=qI (n:=j) (by omega)
     by_cases hj8:j < 8
     ·have j1:((j:Int) < 8) = True:=eq_true (by omega)
      have hrl:((t ++ List.replicate j (1:Int)).map eI).length = t.length + j:=by simp
      have hrx:(t ++ List.replicate (j + 1) (1:Int)).map eI = (t ++ List.replicate j (1:Int)).map eI ++ [[.int 1]]:=by
       rw [List.replicate_succ',← List.append_assoc,List.map_append];rfl
      obtain ⟨R,hR⟩:∃ R,R = (t ++ List.replicate j (1:Int)).map eI:=⟨_,rfl⟩
      rw [← hR] at hrl hrx ⊢
      have q1:=jS (n:=t.length + j + 1) (by omega)
      have q2:=jO (n:=t.length + j + 1) (c:=8) (by omega) (by omega)
      refine gw7 (kk 12) (Y5 j1 hw hrl q1 q2) ?_
      refine qW.on (j + 1) ⟨by omega,by omega⟩ ?_
      rw [hrx]
      exact gw91
     ·obtain rfl:j = 8:=by omega
      have j1:(((8:Nat):Int) < 8) = False:=eq_false (by omega)
      refine gw7 (kk 12) j1 ?_
      refine qW.out () trivial ?_
      exact gw91
    rintro _ _
    refine gw7 (kk 12) Y0 ?_
    exact gw93
   ·have e1:(c == 1) = false:=by simp [c1]
    have e2:(c == 2) = false:=by simp [c2]
    rw [if_neg c0,if_neg c1,if_neg c2]
    refine AEp.of_runs (qX 35) Tryz.func127 rfl rfl rfl (fun _ => rfl) gz ?_
    have hres:Tryz.f127.results.toList = [.tmp 4]:=rfl
    have hrts:Tryz.f127.resultTypes.toList = [24]:=rfl
    simp only [List.length_cons,List.length_nil,yJ,if_true,qK,qA,eL,eI,eLL,eB,Nat.zero_add,Nat.reduceAdd]
    intro M og cap
    refine qQ.of ?_
    refine gw94 (kk 12) (Y6 hdr hdt e0 e1 e2 hlm) ?_
    exact gw93
end
section
theorem p_tree9 {code:List Int} (hc:jA code) (hl:code.length ≤ 1000000000):DrawsE Tryz.prog 11 code (drw1 (drawG code)):=by
 refine drw1_of fun s m hs hm1 hm2 => ?_
 have hpin:=nxt_below hc hl
 have hdr:=xK code s m hs
 have hbd:=yH hc s m
 have hat:=yY (n:=m) hs
 unfold drawG drawF
 obtain ⟨⟨kk,s1⟩,hp⟩:∃ p,p = nxtF code s m:=⟨_,rfl⟩
 rw [← hp] at hdr hbd hat ⊢
 simp only at hdr hbd hat ⊢
 obtain ⟨k,rfl⟩:∃ k:Nat,kk = k:=⟨kk.toNat,by omega⟩
 rw [Int.toNat_natCast]
 have hk:k ≤ 1000:=by omega
 simp only [eI] at hdr
 refine AEp.of_runs (qX 29) Tryz.func11 rfl rfl rfl (fun _ => rfl) gz ?_
 have hres:Tryz.f11.results.toList = [.tmp 4]:=rfl
 have hrts:Tryz.f11.resultTypes.toList = [24]:=rfl
 simp only [List.length_cons,List.length_nil,yJ,if_true,qK,qA,eL,eI,eLL,eB,Nat.zero_add,Nat.reduceAdd]
 intro M og cap
 refine qQ.of ?_
 refine gw96 (kk 7) hdr ?_
 refine qQ.loop (β:=Nat × (Nat × Int) × List Int) (γ:=List Int × (Nat × Int)) (fun x => ⟨[(0,.optr 0 0 0),(5,.c (.own 5 x.2.2.length)),(6,.c (.val (.int x.1)))],[(0,.pin og cap 3 [srcD code x.2.1]),(5,.row 1 (x.2.2.map eI) true)]⟩)
  (fun x => x.1 ≤ k∧x.2.1.1 ≤ code.length∧TOk (1 + (k - x.1)) x.2.2∧growD code x.1 x.2.1 x.2.2 = growD code k s1 [0]) (fun x => x.1)
  (fun z => ⟨[(0,.optr 0 0 0),(5,.c (.own 5 z.1.length))],[(0,.pin og cap 3 [srcD code z.2]),(5,.row 1 (z.1.map eI) true)]⟩) (fun z => z = growD code k s1 [0]) (k,s1,[0]) ⟨Nat.le_refl _,hat,⟨by simp,by show qY [0];decide,by simp,by simp⟩,rfl⟩ ?_ ?_ ?_
 ·exact gw91
 ·rintro ⟨j,s,t⟩ ⟨hj,hs,ht,hgr⟩
  simp only at hj hs ht hgr
  by_cases h0:0 < j
  ·obtain ⟨j,rfl⟩:∃ i,j = i + 1:=⟨j - 1,by omega⟩
   have i1:(((j + 1:Nat):Int) > 0) = True:=eq_true (by omega)
   have hlb:=ht.bd _ (jB0 ht.pos)
   have htl:=ht.len
   have htp:0 < t.length:=List.length_pos_iff.2 ht.pos
   have hdr:=xK code s (t.getLastD 0 + 1) hs
   have hbd:=yH hc s (t.getLastD 0 + 1)
   have hat:=yY (n:=t.getLastD 0 + 1) hs
   have hgr:growD code j (nxtF code s (t.getLastD 0 + 1)).2 (t ++ [1 + (nxtF code s (t.getLastD 0 + 1)).1]) = growD code k s1 [0]:=hgr
   have hnext:=(wH hc 1 ht hs).1
   have hnext:TOk (1 + (k - (j + 1)) + 1) (t ++ [1 + (nxtF code s (t.getLastD 0 + 1)).1]):=hnext
   obtain ⟨⟨x,s2⟩,hp⟩:∃ p,p = nxtF code s (t.getLastD 0 + 1):=⟨_,rfl⟩
   rw [← hp] at hdr hbd hat hgr hnext
   simp only at hdr hbd hat hgr hnext
   simp only [eI] at hdr
   have hlm:(t.map eI).length = t.length:=List.length_map _
   have i2:((0:Int) ≤ (t.length:Int) - 1) = True:=eq_true (by omega)
   have i3:((t.length:Int) - 1 < (t.length:Int)) = True:=eq_true (by omega)
   have w1:w64 ((t.length:Int) - 1) = (t.length:Int) - 1:=qR (by omega)
   have w2:w64 (t.getLastD 0 + 1) = t.getLastD 0 + 1:=qR (by omega)
   have w3:w64 (1 + x) = 1 + x:=qR (by omega)
   have w4:w64 (((j + 1:Nat):Int) - 1) = j:=by rw [qR (by omega)];omega
   have hg:(t.map eI)[((t.length:Int) - 1).toNat]? = some [.int (t.getLastD 0)]:=by
    have e:((t.length:Int) - 1).toNat = t.length - 1:=by omega
    rw [e,List.getElem?_map,← List.getLast?_eq_getElem?]
    cases t with
    | nil => exact absurd rfl ht.pos
    | cons a t => rw [List.getLast?_cons,List.getLastD_cons,← List.getLastD_eq_getLast?];rfl
   have q1:=jS (n:=t.length + 1) (by omega)
   have q2:=jO (n:=t.length + 1) (c:=8) (by omega) (by omega)
   refine gw96 (kk 7) (Y12 hdr i1 i2 i3 w1 w2 w3 w4 hg hlm q1 q2) ?_
   refine qW.on (j,s2,t ++ [1 + x]) ⟨⟨by omega,hat,by rw [show 1 + (k - j) = 1 + (k - (j + 1)) + 1 by omega];exact hnext,hgr⟩,by simp⟩ ?_
   exact gw92
  ·obtain rfl:j = 0:=by omega
   have i1:(((0:Nat):Int) > 0) = False:=eq_false (by omega)
   refine gw7 (kk 7) i1 ?_
   refine qW.out (t,s) hgr ?_
   exact gw91
 rintro z rfl
 refine gw7 (kk 7) Y0 ?_
 exact gw93
end
end Go.Proofs.YtedgfkpfhonlpaaGreat

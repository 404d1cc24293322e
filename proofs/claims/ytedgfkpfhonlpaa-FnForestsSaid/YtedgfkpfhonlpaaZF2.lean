/- Lemmas (2). -/
import Derived.Lib.OthersKept
import Derived.Test.YtedgfkpfhonlpaaZF1
set_option linter.unusedSimpArgs false
set_option linter.unusedVariables false
namespace Go.Proofs.Ytedgfkpfhonlpaa
open Go.RowKit
set_option maxHeartbeats 1000000 in
set_option maxRecDepth 100000 in
theorem c_copyCheck_used (b:Nat) (w:World) (h0:w.cell? ⟨b,0,none⟩ = some (.pointer (some ⟨b,0,none⟩))) :
  Calls Try.prog 97 #[.pointer (some ⟨b,0,none⟩)] w fun e w' => e = .returned (.tuple #[])∧w' = w:=by
 go_enter Try.func97,Try.ntmps97
 go_wp2
 rw [Lib.run_neq_ptr_same (P:=Try.prog) w (tp:=84) (te:=86) _ rfl rfl]
 go_wp2
 go_end0
 exact ⟨rfl,rfl⟩
set_option maxHeartbeats 1000000 in
set_option maxRecDepth 100000 in
theorem c_copyCheck_fresh (b:Nat) (w:World) (h0:w.cell? ⟨b,0,none⟩ = some (.pointer none)) (hsh:w.shape? b = some (86,2)) (hfz:w.frozen? ⟨b,0,none⟩ = false) :
  Calls Try.prog 97 #[.pointer (some ⟨b,0,none⟩)] w fun e w' => e = .returned (.tuple #[])∧w' = w.setCell ⟨b,0,none⟩ (.pointer (some ⟨b,0,none⟩)):=by
 go_enter Try.func97,Try.ntmps97
 go_wp2
 rw [Lib.run_to_unsafe (P:=Try.prog) w (src:=84) (dst:=112) (t:=86) ⟨b,0,none⟩ rfl rfl rfl (by decide) hsh (Nat.zero_lt_succ 1)]
 simp only [Result.andThen]
 rw [Oper.upon_value]
 go_wp2
 rw [run_callFunc_extern (f:=111) rfl (by kernel_rfl) (by kernel_rfl) (by kernel_rfl) (e:=Extern.AbiNoEscape.same) (by kernel_rfl)]
 rw [Lib.run_noEscape]
 simp only [Result.andThen]
 rw [Oper.upon_value]
 go_wp2
 rw [Lib.run_from_unsafe (P:=Try.prog) w (src:=112) (dst:=84) (u:=86) ⟨b,0,none⟩ rfl rfl rfl hsh (by kernel_rfl)]
 simp only [Result.andThen]
 rw [Oper.upon_value]
 go_wp2
 go_end0
 exact ⟨rfl,rfl⟩
def BldW (B b lo hi:Nat) (bs:List Value) (w w':World):Prop :=
 BuiltAt 86 5 B b lo hi (.pointer (some ⟨b,0,none⟩)) bs w'∧Below B w w'∧BKept b lo hi w w'
theorem BuiltAt.used {T e:TypeId} {B b lo hi:Nat} {p:Value} {bs:List Value} {w:World} (h:BuiltAt T e B b lo hi p bs w) (q:Value):BuiltAt T e B b lo hi q bs (w.setCell ⟨b,0,none⟩ q):=by
 obtain ⟨hB,v,hb,hown,hne,h5⟩:=h
 refine ⟨hB,v,?_,?_,hne,h5⟩
 ·simp [World.setCell,Array.getElem?_modify,hb]
 ·refine hown.kept (row:=some b) ⟨rfl,rfl,rfl,by simp [World.setCell],fun k _ hk => Below.heap_setCell _ _ _ _ (fun e => hk (by simp [e]))⟩ ?_
  exact Or.inr hne
theorem c_copyCheck (B b lo hi:Nat) (p:Value) (bs:List Value) (w:World) (hp:p = .pointer none ∨ p = .pointer (some ⟨b,0,none⟩)) (h:BuiltAt 86 5 B b lo hi p bs w) :
  Calls Try.prog 97 #[.pointer (some ⟨b,0,none⟩)] w fun e w' => e = .returned (.tuple #[])∧BldW B b lo hi bs w w':=by
 rcases hp with rfl|rfl
 ·refine (c_copyCheck_fresh b w h.toF.cell0 h.toF.shape h.toF.frozen0).mono ?_
  rintro e w' ⟨rfl,rfl⟩
  exact ⟨rfl,h.used _,(Below.refl B w).setCell (p:=⟨b,0,none⟩) h.1 _,by simp [World.setCell],fun k _ _ _ hk => Below.heap_setCell _ _ _ _ hk⟩
 ·refine (c_copyCheck_used b w h.toF.cell0).mono ?_
  rintro e w' ⟨rfl,rfl⟩
  exact ⟨rfl,h,Below.refl B _,Nat.le_refl _,fun _ _ _ _ _ => rfl⟩
set_option maxHeartbeats 2000000 in
set_option maxRecDepth 100000 in
theorem c_WriteString (B b lo hi:Nat) (p:Value) (bs:List Value) (s:ByteArray) (w:World) (hp:p = .pointer none ∨ p = .pointer (some ⟨b,0,none⟩)) (h:BuiltAt 86 5 B b lo hi p bs w)
  (hlen:bs.length + s.size ≤ 140737488355328) (hBw:B ≤ w.heap.size) (hhi:hi ≤ w.heap.size) :
  Calls Try.prog 83 #[.pointer (some ⟨b,0,none⟩),.string s] w fun e w' => e = .returned (.tuple #[.int .i64 s.size,.nilIface])∧BldW B b lo hi (bs ++ Lib.strCells s) w w':=by
 have hcc:=c_copyCheck B b lo hi p bs w hp h
 clear h hp
 go_enter Try.func83,Try.ntmps83
 go_wp2_with (go_at_call 97;refine hcc.mono ?_)
 rintro e w1 ⟨rfl,h1,hb1,hk1⟩
 obtain ⟨hB,v,hbk,hown,hne,hoff⟩:=h1
 have c0:w1.cell? ⟨b,0,none⟩ = some (.pointer (some ⟨b,0,none⟩)):=by rw [Lib.cell_of_heap hbk];rfl
 have c1:w1.cell? ⟨b,1,none⟩ = some v:=by rw [Lib.cell_of_heap hbk];rfl
 go_wp2_with (at_builtin;refine wpList_append_blk (P:=Try.prog) rfl _ _ 22 9 rfl B 5 _ rfl rfl rfl rfl rfl rfl _ _ _ rfl hown s rfl ?c3 ?c4 ?c5 ?_)
 case c3 => unfold maxLen;omega
 case c4 => omega
 case c5 => have:=hb1.size;omega
 intro v' w2 hown' hgrow hblk
 have hlt:b < w1.heap.size:=(Array.getElem?_eq_some_iff.1 hbk).1
 have hb2:w2.heap[b]? = some (.cells #[.pointer (some ⟨b,0,none⟩),v] 86 (0,0)):=by
  rw [hgrow.block b hlt (fun e => hne e.symm)]
  exact hbk
 have d0:w2.cell? ⟨b,0,none⟩ = some (.pointer (some ⟨b,0,none⟩)):=by rw [Lib.cell_of_heap hb2];rfl
 have d1:w2.cell? ⟨b,1,none⟩ = some v:=by rw [Lib.cell_of_heap hb2];rfl
 have f1:w2.frozen? ⟨b,1,none⟩ = false:=Lib.frozen_of_heap hb2 1
 obtain ⟨ao,n',cap,rfl⟩:∃ ao n' cap,v' = .slice ao n' cap:=by
  rcases hown'.2 with ⟨hv,_⟩|⟨g,cap,cur,fz,hv,_⟩
  ·exact ⟨_,_,_,hv⟩
  ·exact ⟨_,_,_,hv⟩
 go_wp2
 go_ret2
 have hs1:=hb1.size
 have hput:=Lib.BuilderAtF.put (p:=.pointer (some ⟨b,0,none⟩)) (T:=86) (e:=5) hB hb2 (bs':=bs ++ Lib.strCells s) (by simpa [Lib.strCells_length] using hown') (by decide)
 refine ⟨rfl,?_,(hb1.grown hgrow (by omega) (fun k hk => (hown.lt k hk).1)).setCell (p:=⟨b,1,none⟩) hB _,?_,?_⟩
 ·obtain ⟨q1,v2,q2,q3,q4⟩:=hput
  refine ⟨q1,v2,q2,q3,q4,?_⟩
  have hv2:v2 = .slice ao n' cap:=by
   have h3:(w2.setCell ⟨b,1,none⟩ (.slice ao n' cap)).heap[b]? = some (.cells #[.pointer (some ⟨b,0,none⟩),.slice ao n' cap] 86 (0,0)):=by
    simp [World.setCell,Array.getElem?_modify,hb2]
   rw [h3] at q2
   simpa using q2.symm
  subst hv2
  intro k hk
  rcases hblk with h3|⟨k',h3,h4⟩
  ·exact hoff k (h3 ▸ hk)
  ·rw [h3] at hk
   cases hk
   right;omega
 ·have:=hgrow.size
  have:=hk1.1
  simp only [World.setCell,Array.size_modify]
  omega
 ·intro k k1 k2 k3 k4
  rw [Below.heap_setCell _ _ _ _ k4,hgrow.block k (by omega) (fun e => by have:=hoff k e.symm;omega)]
  exact hk1.2 k k1 k2 k3 k4
set_option maxHeartbeats 2000000 in
set_option maxRecDepth 100000 in
theorem c_BuilderString (B b:Nat) (p:Value) (l:List UInt8) (w:World) (hAt:Lib.BuilderAtF 86 5 B b p (Lib.byteCells l) w) (h0:l ≠ []) :
  Calls Try.prog 84 #[.pointer (some ⟨b,0,none⟩)] w fun e w' => e = .returned (.string ⟨l.toArray⟩)∧Below B w w':=by
 obtain ⟨hB,v,hbk,hown,hne⟩:=hAt
 have hl0:l.length ≠ 0:=by simpa using h0
 rw [Lib.byteCells_length] at hown
 obtain ⟨g,cap,cur,fz,rfl,hbg,hg,hfz,hnc,hcm,hcs,htake⟩:∃ g cap cur fz,v = .slice (some ⟨g,0,none⟩) l.length cap∧B ≤ g∧w.heap[g]? = some (.cells cur 5 fz)∧fz.2 ≤ l.length * 1∧l.length ≤ cap∧cap ≤ maxLen∧cur.size = cap * 1∧cur.toList.take (l.length * 1) = Lib.byteCells l:=by
  rcases hown.2 with ⟨_,hz⟩|⟨g,cap,cur,fz,hv,r⟩
  ·exact absurd hz hl0
  ·exact ⟨g,cap,cur,fz,hv,r⟩
 have c1:w.drew.cell? ⟨b,1,none⟩ = some (.slice (some ⟨g,0,none⟩) l.length cap):=by
  have:w.drew.heap[b]? = some (.cells #[p,.slice (some ⟨g,0,none⟩) l.length cap] 86 (0,0)):=hbk
  rw [Lib.cell_of_heap this];rfl
 have hSD:(Builtin.unsafeSliceData_ #[22] 100 #[.slice (some ⟨g,0,none⟩) l.length cap]).run Try.prog w.drew = .ok (.pointer (some ⟨g,0,none⟩)) w.drew :=
  Lib.run_unsafeSliceData_row _ _ _ _ _ _ (by omega)
 have hUS:(Builtin.unsafeString_ #[100,3] 9 #[.pointer (some ⟨g,0,none⟩),.int .i64 l.length]).run Try.prog w.drew = .ok (.string ⟨l.toArray⟩) (w.drew.freeze ⟨g,0,none⟩ l.length):=by
  refine Lib.run_unsafeString_row w.drew 100 3 9 5 rfl rfl g cur.size (by have hg':w.drew.heap[g]? = some (.cells cur 5 fz):=hg;simp [World.shape?,hg']) l h0 (by omega) (by unfold maxLen at hcm;omega) ?_
  intro j x hx
  have:=hown.cells (g:=g) rfl j (.int .u8 x.toNat) (by simp [Lib.byteCells,hx])
  exact this
 have mixed:Try.prog.follows Departure.mixedOrders = true:=by kernel_rfl
 go_enter Try.func84,Try.ntmps84
 go_wp2
 go_region_o
 all_goals (go_wp2;go_ret;exact ⟨rfl,Lib.below_freeze (Below.drew (Below.refl B w)) (p:=⟨g,0,none⟩) hbg _⟩)
end Go.Proofs.Ytedgfkpfhonlpaa
namespace Go.Proofs.Ytedgfkpfhonlpaa
open Go.RowKit
def bstr (l:List UInt8):Value:=.string ⟨l.toArray⟩
theorem strCells_bytes (l:List UInt8):Lib.strCells ⟨l.toArray⟩ = Lib.byteCells l:=by simp [Lib.strCells,Lib.byteCells]
structure TxI (w:World) (w2:World) (lo hi:Nat) (l:List UInt8) (wr:World):Prop where
 bld:BuiltAt 86 5 w.heap.size w.heap.size lo hi (.pointer (some ⟨w.heap.size,0,none⟩)) (Lib.byteCells l) wr
 bel:Below w.heap.size w wr
 top:hi ≤ wr.heap.size
 kept:∀ k,lo ≤ k→k < hi→wr.heap[k]? = w2.heap[k]?
theorem TxI.call {w w2 wr w':World} {lo hi:Nat} {l:List UInt8} (h:TxI w w2 lo hi l wr) (hb:Below wr.heap.size wr w'):TxI w w2 lo hi l w' :=
 ⟨h.bld.below hb,h.bel.trans (hb.mono h.bel.size),Nat.le_trans h.top hb.size,fun k h1 h2 => (hb.block k (by have:=h.top;omega)).trans (h.kept k h1 h2)⟩
theorem TxI.write {w w2 wr w':World} {lo hi:Nat} {l:List UInt8} {s:List UInt8} (h:TxI w w2 lo hi l wr) (hlo:w.heap.size < lo) (hb:BldW w.heap.size w.heap.size lo hi (Lib.byteCells l ++ Lib.strCells ⟨s.toArray⟩) wr w'):TxI w w2 lo hi (l ++ s) w':=by
 obtain ⟨h1,h2,h3,h4⟩:=hb
 rw [strCells_bytes,← Lib.byteCells_append] at h1
 exact ⟨h1,h.bel.trans h2,Nat.le_trans h.top h3,fun k k1 k2 => (h4 k k1 k2 (by have:=h.top;omega) (by omega)).trans (h.kept k k1 k2)⟩
set_option maxRecDepth 100000 in
set_option maxHeartbeats 4000000 in
theorem c_impl_treeText:∀ (n:Nat) (v:Value) (t:List Int) (w:World),Rd (RS RI) w [v] t→LevP t→t.length ≤ n→t.length ≤ 1000000 →
  Calls Try.prog 55 #[v] w (RetV w (bstr (txtF n t))):=by
 intro n
 induction n with
 | zero => intro v t w h hl hn h13;have:=hl.pos;omega
 | succ n ih =>
  intro v t w h hl hn h13
  have HL:=Lib.hid hl
  have IH:=Lib.hid ih
  have hfew:=brs_few hl
  have HLEN:=Lib.hid (txtTo_len hl hn)
  have HFL:=Lib.hid (txtF_len (n + 1) t hl hn)
  clear ih
  obtain ⟨wa,hwa⟩:∃ wa,wa = w.alloc (.cells #[.pointer none,.slice none 0 0] 86):=⟨_,rfl⟩
  have hsa:wa.heap.size = w.heap.size + 1:=by rw [hwa];simp
  have hbela:Below w.heap.size w wa:=by rw [hwa];exact (Below.refl _ _).alloc (Nat.le_refl _) _
  have hbuilt:BuiltAt 86 5 w.heap.size w.heap.size 0 0 (.pointer none) (Lib.byteCells []) wa:=by
   rw [hwa]
   exact ⟨Nat.le_refl _,.slice none 0 0,heap_alloc_new w _,World.ownsRowF_nil _ _ _ _,by simp [Value.ownBlock],fun k hk => by simp [Value.ownBlock] at hk⟩
  have hw1:=c_WriteString w.heap.size w.heap.size 0 0 (.pointer none) _ ⟨#[91]⟩ wa (.inl rfl) hbuilt (by decide) (by omega) (Nat.zero_le _)
  clear hbuilt
  go_enter Try.func55,Try.ntmps55
  go_wp2_with (go_at_call 83;rw [← hwa];refine hw1.mono ?_)
  rintro e w1 ⟨rfl,hb1,bel1,hk1⟩
  have hs1:=bel1.size
  have hbel1:Below w.heap.size w w1:=hbela.trans bel1
  have hr1:=h.below hbel1 (Nat.le_refl _)
  have hbr:=c_impl_branchesOf v t w1 hr1 HL.out (by omega)
  have HK:=Lib.hid hk1
  have HB:=Lib.hid (BuiltAt.ofF (hi:=w1.heap.size) hb1.toF)
  clear hr1 hw1 hb1 hk1 h
  go_wp2_with (go_at_call 49;refine hbr.mono ?_;rintro e w2 ⟨u,rfl,o1,b1⟩;obtain ⟨oa,cap,rfl,l1,l2⟩:=o1.val)
  have hsz1:=b1.size
  have hI0:TxI w w2 w1.heap.size w2.heap.size (txtTo n t 0) w2:=by
   have h1:=HB.out
   obtain ⟨q1,v1,q2,q3,q4,q5⟩:=h1
   refine ⟨BuiltAt.below ⟨q1,v1,q2,q3,q4,fun k hk => .inl (by have:=(q3.lt k hk).2;omega)⟩ b1,hbel1.trans (b1.mono hbel1.size),Nat.le_refl _,fun k _ _ => rfl⟩
  have HO:=Lib.hid o1
  clear o1 hbr
  go_loopw [5,10] (fun _ i wr => ∃ k:Nat,k ≤ (brs t).length∧i = .int .i64 k∧TxI w w2 w1.heap.size w2.heap.size (txtTo n t k) wr) (fun _ i _ => (brs t).length - (intOf i).toNat)
  case atStart => exact ⟨0,Nat.zero_le _,rfl,hI0⟩
  case round =>
   obtain ⟨k,hk,rfl,hI⟩:=hrel
   have o2:=HO.out.frame hI.kept
   obtain ⟨oa1,cap1,L⟩:=o2.rd.lists
   have hval:=L.val
   simp only [Value.slice.injEq,true_and] at hval
   obtain ⟨rfl,rfl⟩:=hval
   by_cases hlt:k < (brs t).length
   ·obtain ⟨b,off,hoa,hb,hc⟩:=L.get hlt
    obtain ⟨oi,ci,g1,hrd,q1,q2⟩:=hc k hlt
    subst hoa
    have hmem:=List.getElem_mem hlt
    have hshort:=brs_short HL.out _ hmem
    have hc2:=IH.out (.slice oi (brs t)[k].length ci) (brs t)[k] wr hrd (brs_lev HL.out _ hmem) (by omega) (by omega)
    have HN:=Lib.hid (txtTo_succ n t k hlt)
    have hlk:=HLEN.out (k + 1)
    rw [HN.out,List.length_append] at hlk
    have HI:=Lib.hid hI
    clear hI L o2 hc hrd
    go_wp2_with (go_at_call 55;refine hc2.mono ?_;rintro e w3 ⟨rfl,b2⟩)
    have hI2:=HI.out.call b2
    have hw3:=c_WriteString w.heap.size w.heap.size w1.heap.size w2.heap.size _ _ ⟨(txtF n (brs t)[k]).toArray⟩ w3 (.inr rfl) hI2.bld
     (by simp only [Lib.byteCells_length];show _ + (txtF n (brs t)[k]).toArray.size ≤ _;rw [List.size_toArray];omega) (by have:=hI2.bel.size;omega) hI2.top
    have HI2:=Lib.hid hI2
    clear hI2 hc2
    go_wp2_with (go_at_call 83;refine hw3.mono ?_)
    rintro e w4 ⟨rfl,hb4⟩
    have HI4:=Lib.hid (HI2.out.write (by omega) hb4)
    clear hw3 hb4
    go_wp2_with fail
    go_roundw
    case rel => exact ⟨k + 1,by omega,by go_num,by rw [HN.out];exact HI4.out⟩
    case measure => simp [intOf];omega
   ·have hke:k = (brs t).length:=by omega
    subst hke
    have hlk:=HLEN.out (brs t).length
    have hw3:=c_WriteString w.heap.size w.heap.size w1.heap.size w2.heap.size _ _ ⟨#[93]⟩ wr (.inr rfl) hI.bld
     (by simp only [Lib.byteCells_length];show _ + 1 ≤ _;omega) (by have:=hI.bel.size;omega) hI.top
    have HI:=Lib.hid hI
    clear hI o2 L
    go_wp2_with (go_at_call 83;refine hw3.mono ?_)
    rintro e w4 ⟨rfl,hb4⟩
    have hI4:=HI.out.write (s:=[93]) (by omega) hb4
    rw [txtTo_all] at hI4
    have hst:=c_BuilderString w.heap.size w.heap.size _ (txtF (n + 1) t) w4 hI4.bld.toF (by intro h;have:=HFL.out;rw [h] at this;simp at this;omega)
    have HI4:=Lib.hid hI4
    clear hI4 hw3 hb4
    go_wp2_with (go_at_call 84;refine hst.mono ?_)
    rintro e w5 ⟨rfl,hb5⟩
    clear hst
    go_wp2_with fail
    go_ret
    exact ⟨rfl,HI4.out.bel.trans hb5⟩
end Go.Proofs.Ytedgfkpfhonlpaa

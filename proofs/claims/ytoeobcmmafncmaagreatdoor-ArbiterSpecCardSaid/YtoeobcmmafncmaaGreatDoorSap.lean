/- paths.opened, walked. -/
import Derived.Test.YtoeobcmmafncmaaGreatDoorSao
import Derived.Test.YtoeobcmmafncmaaGreatDoorSai
set_option maxRecDepth 1000000
set_option maxHeartbeats 16000000
namespace Go.Proofs.YtoeobcmmafncmaaGreatDoor
open Go.RowKit
theorem and7 {a b c d e f g:Prop} (h1:a) (h2:b) (h3:c) (h4:d) (h5:e) (h6:f) (h7:g):a∧b∧c∧d∧e∧f∧g:=⟨h1,h2,h3,h4,h5,h6,h7⟩
structure Stp where
 at_:Int
 left:Opn
 right:Opn
 mid:Int
def Stp.cl (s:Stp):List Value:=[.int .i64 s.at_]++(s.left.cl++(s.right.cl++[.int .i64 s.mid]))
def Stp.ok (s:Stp):Prop:=inI s.at_∧s.left.ok∧s.right.ok∧inI s.mid
theorem Opn.cl_length {o:Opn} (h:o.ok):o.cl.length=36:=by
 obtain ⟨_,_,_,_,h,_⟩:=h
 simp [Opn.cl,byts_length,h]
theorem Stp.cells {s:Stp} (h:s.ok):s.cl[0]?=some (.int .i64 s.at_)∧(∀ j,j<36→s.cl[1+j]?=s.left.cl[j]?)∧(∀ j,j<36→s.cl[37+j]?=s.right.cl[j]?)∧s.cl[73]?=some (.int .i64 s.mid):=by
 have l1:=Opn.cl_length h.2.1
 have l2:=Opn.cl_length h.2.2.1
 unfold Stp.cl
 refine ⟨rfl,fun j hj=>?_,fun j hj=>?_,?_⟩
 ·rw [List.getElem?_append_right (by simp),List.getElem?_append_left (by simp;omega)]
  simp
 ·rw [List.getElem?_append_right (by simp;omega),List.getElem?_append_right (by simp;omega),List.getElem?_append_left (by simp;omega)]
  congr 1
  simp;omega
 ·rw [List.getElem?_append_right (by simp),List.getElem?_append_right (by simp;omega),List.getElem?_append_right (by simp;omega)]
  simp [l1,l2]
theorem dig_at {w:World} {B n k:Nat} {A:Option Addr} {l:List (List Nat)} {d:List Nat} (h:Rd w B 32 A n (l.flatMap byts)) (ho:∀ d∈l,d.length=32∧okB d) (hk:k<n) (hd:l[k]?=some d) :
  ∃ b off,A=some ⟨b,off,none⟩∧b<B∧d.length=32∧okB d∧∀ j v,(byts d)[j]?=some v→w.cell? ⟨b,off+k*32+j,none⟩=some v:=by
 obtain ⟨b,off,e,hb,hc⟩:=h.2 (by omega)
 have hm:=ho d (List.mem_of_getElem? hd)
 refine ⟨b,off,e,hb,hm.1,hm.2,fun j v hj=>?_⟩
 rw [Nat.add_assoc]
 refine hc _ _ ?_
 have hj32:j<32:=by have:=(List.getElem?_eq_some_iff.1 hj).1;rw [byts_length,hm.1] at this;exact this
 rw [flat_mem l k j d (fun y hy=>by rw [byts_length];exact (ho y hy).1) hd hj32]
 exact hj
theorem load_digL {w:World} {g o:Nat} {d:List Nat} (hd:d.length=32) (hg:g<w.heap.size) (hc:∀ j v,(byts d)[j]?=some v→w.cell? ⟨g,o+j,none⟩=some v) (x:Later) :
  (Instr.loadAt 49 (.pointer (some ⟨g,o,none⟩))).run Tryz.prog (later w x) = .ok (.agg (byts d).toArray) (later w x) :=
 run_loadAt_mid _ g o 49 (byts d) _ (fun j v hj=>(cell_later w x _ hg).trans (hc j v hj)) dig_under rfl (by rw [byts_length,hd];exact dig_info)
theorem opn_info:(Tryz.prog.info? 84).map (·.size)=some 36:=by kernel_rfl
theorem load_opnL {w:World} {g o:Nat} {p:Opn} (hp:p.ok) (hg:g<w.heap.size) (hc:∀ j,j<36→w.cell? ⟨g,o+j,none⟩=p.cl[j]?) (x:Later) :
  (Instr.loadAt 84 (.pointer (some ⟨g,o,none⟩))).run Tryz.prog (later w x) = .ok (.agg p.cl.toArray) (later w x) :=
 run_loadAt_mid _ g o 84 p.cl _ (fun j v hj=>(cell_later w x _ hg).trans ((hc j (by have:=(List.getElem?_eq_some_iff.1 hj).1;rw [Opn.cl_length hp] at this;exact this)).trans hj)) Tryz.underlying84 rfl (by rw [Opn.cl_length hp];exact opn_info)
theorem quiet_loadL {P:Program} {o:Oper} {a:Act} {w0:World} {K:Act→Prop} {ty:TypeId} {x:Operand} {q v:Value} (L:∀ y:Later,(Instr.loadAt ty q).run P (later w0 y) = .ok v (later w0 y)) (ho:o.op = .load ty x) (hx:a.eval x=q)
  (hk:K (a.put o.dst v)):o.quiet P a (fun w'=>∃ y:Later,w'=later w0 y) K :=
 ⟨v,fun w hw=>by
  obtain ⟨y,rfl⟩:=hw
  unfold Oper.quietAt
  rw [exec_load ho hx (L y)]
  exact ⟨rfl,rfl⟩,hk⟩
def lensB (n:Nat) (j:Jb):Bool:=decide (j.mi.length=n)&&(decide (j.mm.length=n)&&(decide (j.mo.length=n)&&(decide (j.ml.length=n)&&decide (j.mr.length=n))))
def openedB (rest:Int) (n:Nat) (j:Jb) (s:Stp) (k:Nat):Bool :=
 lensB n j&&((j.mi.getD k zeroL).eqB (j.bare.getD k zeroL)&&(decide (s.at_=k)&&(decide (s.left.at_=k)&&(decide (0≤s.mid)&&(decide (s.mid<n)&&(decide (0≤s.right.at_)&&(decide (s.right.at_<n) &&
  (commitsB (j.ml.getD s.mid.toNat []) ⟨#[108,101,102,116]⟩ s.left&&(leadsB rest (j.mi.getD k zeroL) (j.mm.getD s.mid.toNat zeroL) s.left.r0 s.left.r1 s.left.r2 &&
   (commitsB (j.mr.getD s.mid.toNat []) ⟨#[114,105,103,104,116]⟩ s.right&&leadsB rest (j.mm.getD s.mid.toNat zeroL) (j.mo.getD s.right.at_.toNat zeroL) s.right.r0 s.right.r1 s.right.r2))))))))))
theorem pa_opened (cs:Array Value) (inn:List Ltr) (key rest:Int) (j:Jb) (s:Stp) (k:Nat) (W:World) (h:ShnAt W W.heap.size cs inn key rest j) (hs:s.ok) (hk:k<inn.length) (hbl:j.bare.length=inn.length) (hG:ShaG W) :
  Calls Tryz.prog 60 #[.agg cs,.agg s.cl.toArray,.int .i64 (k:Nat)] W (Ret (.bool (openedB rest inn.length j s k)) W):=by
 obtain ⟨v,hv⟩:∃ v,v=openedB rest inn.length j s k:=⟨_,rfl⟩
 rw [←hv]
 obtain ⟨A,c,h0,hA,hAc,hAm⟩:=h.hin
 obtain ⟨A1,c1,hb3,hA1,hA1c,hA1m⟩:=h.hjob.h0
 obtain ⟨A2,c2,h5,hA2,hA2c,hA2m⟩:=h.hjob.h2
 obtain ⟨A3,c3,h6,hA3,hA3c,hA3m⟩:=h.hjob.h3
 obtain ⟨A4,c4,h7,hA4,hA4c,hA4m⟩:=h.hjob.h4
 obtain ⟨A5,c5,h8,hA5,hA5c,hA5m,hA5o⟩:=h.hjob.h5
 obtain ⟨A6,c6,h9,hA6,hA6c,hA6m,hA6o⟩:=h.hjob.h6
 have hrest:=h.hrest
 obtain ⟨s0,s1,s37,s73⟩:=Stp.cells hs
 have B0:Blk ((W.alloc (.cells cs 81)).alloc (.cells s.cl.toArray 86)) W.heap.size 81 cs:=(Blk.new W _ cs _ rfl).alloc _
 have BS:Blk ((W.alloc (.cells cs 81)).alloc (.cells s.cl.toArray 86)) (W.heap.size+1) 86 s.cl.toArray:=Blk.new _ _ _ _ (by simp)
 have hb:=bAl (bAl (bRefl W) (.cells cs 81)) (.cells s.cl.toArray 86)
 go_enter Tryz.func60,Tryz.ntmps60
 go_upto_region 1 with fail
 generalize (W.alloc (.cells cs 81)).alloc (.cells s.cl.toArray 86)=w2 at *
 have KS:Hid (∀ w',Below w2.heap.size w2 w'→_):=Lib.hid (fun w' h=>and7 (((B0.below h B0.lt).cell 5).trans h5) (((B0.below h B0.lt).cell 6).trans h6) (((B0.below h B0.lt).cell 7).trans h7) (((B0.below h B0.lt).cell 8).trans h8) (((B0.below h B0.lt).cell 9).trans h9) (((B0.below h B0.lt).cell 0).trans h0) (((BS.below h BS.lt).cell 73).trans (show s.cl.toArray[73]?=some (.int .i64 s.mid) from by rw [List.getElem?_toArray];exact s73)))
 refine wp_region_maskB (f:=11) (n:=3) KS [1,1,2,1,2,1,1,2,0,0,0,0] ?_
 simp only [pickH,pickT]
 iterate 2 refine wpHeads_t ?_
 refine wpHeads_r ?_
 refine wpHeads_t ?_
 refine wpHeads_r ?_
 iterate 2 refine wpHeads_t ?_
 refine wpHeads_r ?_
 refine wpHeads_nil ?_
 iterate 3 (refine wpTailS_cons (fun K hK=>?_);go_simp;(first | (fail) | skip);refine mask_go hK KS ?_;clear hK K)
 refine wpTailS_zero ?_
 go_wp2_with fail
 refine NoPanic.normal ?_
 have hv0:=Lib.hid hv
 have D7:Blk (w2.alloc (.cells #[.slice A2 j.mi.length c2,.slice A3 j.mm.length c3,.slice A4 j.mo.length c4,.slice A5 j.ml.length c5,.slice A6 j.mr.length c6] 47)).drew w2.heap.size 47 #[.slice A2 j.mi.length c2,.slice A3 j.mm.length c3,.slice A4 j.mo.length c4,.slice A5 j.ml.length c5,.slice A6 j.mr.length c6]:=Blk.new w2 _ _ _ rfl
 have E0:=Blk.dr (B0.alloc (.cells #[.slice A2 j.mi.length c2,.slice A3 j.mm.length c3,.slice A4 j.mo.length c4,.slice A5 j.ml.length c5,.slice A6 j.mr.length c6] 47))
 have ES:=Blk.dr (BS.alloc (.cells #[.slice A2 j.mi.length c2,.slice A3 j.mm.length c3,.slice A4 j.mo.length c4,.slice A5 j.ml.length c5,.slice A6 j.mr.length c6] 47))
 have h3:=bDr (bAl hb (.cells #[.slice A2 j.mi.length c2,.slice A3 j.mm.length c3,.slice A4 j.mo.length c4,.slice A5 j.ml.length c5,.slice A6 j.mr.length c6] 47))
 have hg7:=BS.lt
 clear KS B0 BS hb hv
 generalize (w2.alloc (.cells #[.slice A2 j.mi.length c2,.slice A3 j.mm.length c3,.slice A4 j.mo.length c4,.slice A5 j.ml.length c5,.slice A6 j.mr.length c6] 47)).drew=w3 at *
 generalize w2.heap.size=g7 at *
 have x0:w3.cell? ⟨g7,0,none⟩=some (.slice A2 j.mi.length c2):=D7.cell 0
 have x1:w3.cell? ⟨g7,1,none⟩=some (.slice A3 j.mm.length c3):=D7.cell 1
 have x2:w3.cell? ⟨g7,2,none⟩=some (.slice A4 j.mo.length c4):=D7.cell 2
 have x3:w3.cell? ⟨g7,3,none⟩=some (.slice A5 j.ml.length c5):=D7.cell 3
 have x4:w3.cell? ⟨g7,4,none⟩=some (.slice A6 j.mr.length c6):=D7.cell 4
 clear h0 h5 h6 h7 h8 h9
 have H3:=Lib.hid h3
 go_upto_region 3 with fail
 obtain ⟨w4,hw4⟩:∃ w4,w4=w3.alloc (.cells #[.int .i64 j.mi.length,.int .i64 j.mm.length,.int .i64 j.mo.length,.int .i64 j.ml.length,.int .i64 j.mr.length] 3):=⟨_,rfl⟩
 have BL:Blk w4 w3.heap.size 3 #[.int .i64 j.mi.length,.int .i64 j.mm.length,.int .i64 j.mo.length,.int .i64 j.ml.length,.int .i64 j.mr.length]:=by rw [hw4];exact Blk.new w3 _ _ _ rfl
 have D8:=D7.alloc (.cells #[.int .i64 j.mi.length,.int .i64 j.mm.length,.int .i64 j.mo.length,.int .i64 j.ml.length,.int .i64 j.mr.length] 3)
 have E8:=E0.alloc (.cells #[.int .i64 j.mi.length,.int .i64 j.mm.length,.int .i64 j.mo.length,.int .i64 j.ml.length,.int .i64 j.mr.length] 3)
 have S8:=ES.alloc (.cells #[.int .i64 j.mi.length,.int .i64 j.mm.length,.int .i64 j.mo.length,.int .i64 j.ml.length,.int .i64 j.mr.length] 3)
 rw [←hw4] at D8 E8 S8
 have h4:Below W.heap.size W w4:=by rw [hw4];exact bAl H3.out _
 rw [←hw4]
 clear D7 E0 ES hw4 x0 x1 x2 x3 x4
 generalize w3.heap.size=g8 at *
 have y0:w4.cell? ⟨g8,0,none⟩=some (.int .i64 j.mi.length):=BL.cell 0
 have y1:w4.cell? ⟨g8,1,none⟩=some (.int .i64 j.mm.length):=BL.cell 1
 have y2:w4.cell? ⟨g8,2,none⟩=some (.int .i64 j.mo.length):=BL.cell 2
 have y3:w4.cell? ⟨g8,3,none⟩=some (.int .i64 j.ml.length):=BL.cell 3
 have y4:w4.cell? ⟨g8,4,none⟩=some (.int .i64 j.mr.length):=BL.cell 4
 go_loop [37] (fun i=>∃ m:Int,i = .int .i64 m∧(m=0∧Hid (True)∨m=1∧Hid (j.mi.length=inn.length)∨m=2∧Hid (j.mi.length=inn.length∧j.mm.length=inn.length)∨m=3∧Hid (j.mi.length=inn.length∧j.mm.length=inn.length∧j.mo.length=inn.length)∨m=4∧Hid (j.mi.length=inn.length∧j.mm.length=inn.length∧j.mo.length=inn.length∧j.ml.length=inn.length)∨m=5∧Hid (j.mi.length=inn.length∧j.mm.length=inn.length∧j.mo.length=inn.length∧j.ml.length=inn.length∧j.mr.length=inn.length))) (fun i=>5 - (intOf i).toNat)
 case atStart=>exact ⟨0,rfl,.inl ⟨rfl,Lib.hid trivial⟩⟩
 case round =>
  obtain ⟨m,rfl,hm⟩:=hrel
  rcases hm with ⟨rfl,hq⟩ | ⟨rfl,hq⟩ | ⟨rfl,hq⟩ | ⟨rfl,hq⟩ | ⟨rfl,hq⟩ | ⟨rfl,hq⟩
  ·by_cases he : j.mi.length = inn.length
   ·have t:((j.mi.length:Int) != (inn.length:Int))=false:=by rw [bne_eq_false_iff_eq];omega
    have hn:Hid (_):=Lib.hid he
    clear he
    go_wp2_with fail
    have he:=hn.out
    exact ⟨⟨1,rfl,.inr (.inl ⟨rfl,he⟩)⟩,by simp [intOf]⟩
   ·have t:((j.mi.length:Int) != (inn.length:Int))=true:=by rw [bne_iff_ne];omega
    have Hv:Hid (v=false):=by show _=_;rw [hv0.out];unfold openedB lensB;rw [decide_eq_false he];simp
    clear he
    go_wp2_with fail
    go_ret
    exact ⟨ret_bool Hv.out.symm,h4⟩
  ·by_cases he : j.mm.length = inn.length
   ·have t:((j.mm.length:Int) != (inn.length:Int))=false:=by rw [bne_eq_false_iff_eq];omega
    have hn:Hid (_):=Lib.hid he
    clear he
    go_wp2_with fail
    have he:=hn.out
    exact ⟨⟨2,rfl,.inr (.inr (.inl ⟨rfl,⟨hq.out,he⟩⟩))⟩,by simp [intOf]⟩
   ·have t:((j.mm.length:Int) != (inn.length:Int))=true:=by rw [bne_iff_ne];omega
    have Hv:Hid (v=false):=by show _=_;rw [hv0.out];unfold openedB lensB;rw [decide_eq_false he];simp
    clear he
    go_wp2_with fail
    go_ret
    exact ⟨ret_bool Hv.out.symm,h4⟩
  ·by_cases he : j.mo.length = inn.length
   ·have t:((j.mo.length:Int) != (inn.length:Int))=false:=by rw [bne_eq_false_iff_eq];omega
    have hn:Hid (_):=Lib.hid he
    clear he
    go_wp2_with fail
    have he:=hn.out
    exact ⟨⟨3,rfl,.inr (.inr (.inr (.inl ⟨rfl,⟨hq.out.1,hq.out.2,he⟩⟩)))⟩,by simp [intOf]⟩
   ·have t:((j.mo.length:Int) != (inn.length:Int))=true:=by rw [bne_iff_ne];omega
    have Hv:Hid (v=false):=by show _=_;rw [hv0.out];unfold openedB lensB;rw [decide_eq_false he];simp
    clear he
    go_wp2_with fail
    go_ret
    exact ⟨ret_bool Hv.out.symm,h4⟩
  ·by_cases he : j.ml.length = inn.length
   ·have t:((j.ml.length:Int) != (inn.length:Int))=false:=by rw [bne_eq_false_iff_eq];omega
    have hn:Hid (_):=Lib.hid he
    clear he
    go_wp2_with fail
    have he:=hn.out
    exact ⟨⟨4,rfl,.inr (.inr (.inr (.inr (.inl ⟨rfl,⟨hq.out.1,hq.out.2.1,hq.out.2.2,he⟩⟩))))⟩,by simp [intOf]⟩
   ·have t:((j.ml.length:Int) != (inn.length:Int))=true:=by rw [bne_iff_ne];omega
    have Hv:Hid (v=false):=by show _=_;rw [hv0.out];unfold openedB lensB;rw [decide_eq_false he];simp
    clear he
    go_wp2_with fail
    go_ret
    exact ⟨ret_bool Hv.out.symm,h4⟩
  ·by_cases he : j.mr.length = inn.length
   ·have t:((j.mr.length:Int) != (inn.length:Int))=false:=by rw [bne_eq_false_iff_eq];omega
    have hn:Hid (_):=Lib.hid he
    clear he
    go_wp2_with fail
    have he:=hn.out
    exact ⟨⟨5,rfl,.inr (.inr (.inr (.inr (.inr (⟨rfl,⟨hq.out.1,hq.out.2.1,hq.out.2.2.1,hq.out.2.2.2,he⟩⟩)))))⟩,by simp [intOf]⟩
   ·have t:((j.mr.length:Int) != (inn.length:Int))=true:=by rw [bne_iff_ne];omega
    have Hv:Hid (v=false):=by show _=_;rw [hv0.out];unfold openedB lensB;rw [decide_eq_false he];simp
    clear he
    go_wp2_with fail
    go_ret
    exact ⟨ret_bool Hv.out.symm,h4⟩
  ·obtain ⟨hl1,hl2,hl3,hl4,hl5⟩:=hq.out
   have hLens:Hid (lensB inn.length j=true):=by show _=_;unfold lensB;rw [decide_eq_true hl1,decide_eq_true hl2,decide_eq_true hl3,decide_eq_true hl4,decide_eq_true hl5];rfl
   obtain ⟨X,hX⟩:∃ X,Hid (j.mi[k]?=some X):=⟨_,Lib.hid (List.getElem?_eq_getElem (by omega))⟩
   obtain ⟨Y,hY⟩:∃ Y,Hid (j.bare[k]?=some Y):=⟨_,Lib.hid (List.getElem?_eq_getElem (by omega))⟩
   have hz:=h4.size
   obtain ⟨b2,off2,rfl,hbb2,x0,x1,x2,x3,x4,x5⟩:=Ltr_at (hA2.below h4) (show k<j.mi.length by omega) hX.out
   obtain ⟨b1,off1,rfl,hbb1,y0,y1,y2,y3,y4,y5⟩:=Ltr_at (hA1.below h4) (show k<j.bare.length by omega) hY.out
   have z0:s.cl.toArray[0]?=some (.int .i64 s.at_):=by rw [List.getElem?_toArray];exact s0
   have z1:s.cl.toArray[1]?=some (.int .i64 s.left.at_):=by rw [List.getElem?_toArray];exact s1 0 (by omega)
   have z2:s.cl.toArray[37]?=some (.int .i64 s.right.at_):=by rw [List.getElem?_toArray];exact s37 0 (by omega)
   have i0:(0:Int)≤(k:Int):=by omega
   have i1:(k:Int)<(j.mi.length:Int):=by omega
   have i2:(k:Int)<(j.bare.length:Int):=by omega
   have KS:Hid (∀ w',Below w4.heap.size w4 w'→_):=Lib.hid (fun w' h=>And.intro (show w'.cell? ⟨g7,0,none⟩=some (.slice (some ⟨b2,off2,none⟩) j.mi.length c2) from (D8.below h D8.lt).cell 0) (And.intro (((E8.below h E8.lt).cell 3).trans hb3) (And.intro ((h.cell (p:=⟨b2,off2+k*6,none⟩) (by show b2<_;omega)).trans x0) (And.intro ((h.cell (p:=⟨b2,off2+k*6+1,none⟩) (by show b2<_;omega)).trans x1) (And.intro ((h.cell (p:=⟨b2,off2+k*6+2,none⟩) (by show b2<_;omega)).trans x2) (And.intro ((h.cell (p:=⟨b2,off2+k*6+3,none⟩) (by show b2<_;omega)).trans x3) (And.intro ((h.cell (p:=⟨b2,off2+k*6+4,none⟩) (by show b2<_;omega)).trans x4) (And.intro ((h.cell (p:=⟨b2,off2+k*6+5,none⟩) (by show b2<_;omega)).trans x5) (And.intro ((h.cell (p:=⟨b1,off1+k*6,none⟩) (by show b1<_;omega)).trans y0) (And.intro ((h.cell (p:=⟨b1,off1+k*6+1,none⟩) (by show b1<_;omega)).trans y1) (And.intro ((h.cell (p:=⟨b1,off1+k*6+2,none⟩) (by show b1<_;omega)).trans y2) (And.intro ((h.cell (p:=⟨b1,off1+k*6+3,none⟩) (by show b1<_;omega)).trans y3) (And.intro ((h.cell (p:=⟨b1,off1+k*6+4,none⟩) (by show b1<_;omega)).trans y4) (And.intro ((h.cell (p:=⟨b1,off1+k*6+5,none⟩) (by show b1<_;omega)).trans y5) (And.intro (((S8.below h S8.lt).cell 0).trans z0) (And.intro (((S8.below h S8.lt).cell 1).trans z1) (((S8.below h S8.lt).cell 37).trans z2)))))))))))))))))
   have Hv1:Hid (v=((X.eqB Y)&&(decide (s.at_=k)&&(decide (s.left.at_=k)&&(decide (0≤s.mid)&&(decide (s.mid<inn.length)&&(decide (0≤s.right.at_)&&(decide (s.right.at_<inn.length) &&
    (commitsB (j.ml.getD s.mid.toNat []) ⟨#[108,101,102,116]⟩ s.left&&(leadsB rest (j.mi.getD k zeroL) (j.mm.getD s.mid.toNat zeroL) s.left.r0 s.left.r1 s.left.r2 &&
    (commitsB (j.mr.getD s.mid.toNat []) ⟨#[114,105,103,104,116]⟩ s.right&&leadsB rest (j.mm.getD s.mid.toNat zeroL) (j.mo.getD s.right.at_.toNat zeroL) s.right.r0 s.right.r1 s.right.r2))))))))))):=by
    show _=_
    rw [hv0.out];unfold openedB
    rw [hLens.out,List.getD_eq_getElem?_getD (l:=j.mi),List.getD_eq_getElem?_getD (l:=j.bare),hX.out,hY.out];rfl
   have hne:=run_neS X Y
   unfold Ltr.agg at hne
   clear x0 x1 x2 x3 x4 x5 y0 y1 y2 y3 y4 y5 z0 z1 z2 hl1 hl2 hl3 hl4 hl5
   go_upto_region 8 with fail
   cases hr:X.eqB Y
   ·have Hv:Hid (v=false):=by show _=_;rw [Hv1.out,hr];rfl
    rw [hr] at hne
    clear hr Hv1
    obtain ⟨p0,p1,p2,p3,p4,p5,p6,p7,p8,p9,p10,p11,p12,p13,p14,p15,p16⟩:=KS.out w4 (bRefl _)
    go_quiet (fail)
    go_wp2_with fail
    go_ret
    exact ⟨ret_bool Hv.out.symm,by first | exact bDrN h4 _ | exact bDr h4⟩
   rw [hr] at hne
   have Hr:=Lib.hid hr
   clear hr
   by_cases t1:s.at_=(k:Int)
   case neg =>
    have Hv:Hid (v=false):=by show _=_;rw [Hv1.out,Hr.out,decide_eq_false t1];simp
    have f1:(s.at_ != (k:Int))=true:=by rw [bne_iff_ne];exact t1
    clear t1
    obtain ⟨p0,p1,p2,p3,p4,p5,p6,p7,p8,p9,p10,p11,p12,p13,p14,p15,p16⟩:=KS.out w4 (bRefl _)
    go_quiet (fail)
    go_wp2_with fail
    go_ret
    exact ⟨ret_bool Hv.out.symm,by first | exact bDrN h4 _ | exact bDr h4⟩
   have f1:(s.at_ != (k:Int))=false:=by rw [bne_eq_false_iff_eq];exact t1
   have T1:=Lib.hid t1
   clear t1
   by_cases t2:s.left.at_=(k:Int)
   case neg =>
    have Hv:Hid (v=false):=by show _=_;rw [Hv1.out,Hr.out,decide_eq_false t2];simp
    have f2:(s.left.at_ != (k:Int))=true:=by rw [bne_iff_ne];exact t2
    clear t2
    obtain ⟨p0,p1,p2,p3,p4,p5,p6,p7,p8,p9,p10,p11,p12,p13,p14,p15,p16⟩:=KS.out w4 (bRefl _)
    go_quiet (fail)
    go_wp2_with fail
    go_ret
    exact ⟨ret_bool Hv.out.symm,by first | exact bDrN h4 _ | exact bDr h4⟩
   have f2:(s.left.at_ != (k:Int))=false:=by rw [bne_eq_false_iff_eq];exact t2
   have T2:=Lib.hid t2
   clear t2
   by_cases t3:0≤s.mid
   case neg =>
    have Hv:Hid (v=false):=by show _=_;rw [Hv1.out,Hr.out,decide_eq_false t3];simp
    have f3:decide (s.mid<0)=true:=by rw [decide_eq_true_eq];omega
    clear t3
    obtain ⟨p0,p1,p2,p3,p4,p5,p6,p7,p8,p9,p10,p11,p12,p13,p14,p15,p16⟩:=KS.out w4 (bRefl _)
    go_quiet (fail)
    go_wp2_with fail
    go_ret
    exact ⟨ret_bool Hv.out.symm,by first | exact bDrN h4 _ | exact bDr h4⟩
   have f3:decide (s.mid<0)=false:=by rw [decide_eq_false_iff_not];omega
   have T3:=Lib.hid t3
   clear t3
   by_cases t4:s.mid<(inn.length:Int)
   case neg =>
    have Hv:Hid (v=false):=by show _=_;rw [Hv1.out,Hr.out,decide_eq_false t4];simp
    have f4:decide ((inn.length:Int)≤s.mid)=true:=by rw [decide_eq_true_eq];omega
    clear t4
    obtain ⟨p0,p1,p2,p3,p4,p5,p6,p7,p8,p9,p10,p11,p12,p13,p14,p15,p16⟩:=KS.out w4 (bRefl _)
    go_quiet (fail)
    go_wp2_with fail
    go_ret
    exact ⟨ret_bool Hv.out.symm,by first | exact bDrN h4 _ | exact bDr h4⟩
   have f4:decide ((inn.length:Int)≤s.mid)=false:=by rw [decide_eq_false_iff_not];omega
   have T4:=Lib.hid t4
   clear t4
   by_cases t5:0≤s.right.at_
   case neg =>
    have Hv:Hid (v=false):=by show _=_;rw [Hv1.out,Hr.out,decide_eq_false t5];simp
    have f5:decide (s.right.at_<0)=true:=by rw [decide_eq_true_eq];omega
    clear t5
    obtain ⟨p0,p1,p2,p3,p4,p5,p6,p7,p8,p9,p10,p11,p12,p13,p14,p15,p16⟩:=KS.out w4 (bRefl _)
    go_quiet (fail)
    go_wp2_with fail
    go_ret
    exact ⟨ret_bool Hv.out.symm,by first | exact bDrN h4 _ | exact bDr h4⟩
   have f5:decide (s.right.at_<0)=false:=by rw [decide_eq_false_iff_not];omega
   have T5:=Lib.hid t5
   clear t5
   by_cases t6:s.right.at_<(inn.length:Int)
   case neg =>
    have Hv:Hid (v=false):=by show _=_;rw [Hv1.out,Hr.out,decide_eq_false t6];simp
    have f6:decide ((inn.length:Int)≤s.right.at_)=true:=by rw [decide_eq_true_eq];omega
    clear t6
    obtain ⟨p0,p1,p2,p3,p4,p5,p6,p7,p8,p9,p10,p11,p12,p13,p14,p15,p16⟩:=KS.out w4 (bRefl _)
    go_quiet (fail)
    go_wp2_with fail
    go_ret
    exact ⟨ret_bool Hv.out.symm,by first | exact bDrN h4 _ | exact bDr h4⟩
   have f6:decide ((inn.length:Int)≤s.right.at_)=false:=by rw [decide_eq_false_iff_not];omega
   have T6:=Lib.hid t6
   clear t6
   obtain ⟨p0,p1,p2,p3,p4,p5,p6,p7,p8,p9,p10,p11,p12,p13,p14,p15,p16⟩:=KS.out w4 (bRefl _)
   go_quiet (fail)
   go_upto_region 10 with fail
   obtain ⟨hl1,hl2,hl3,hl4,hl5⟩:=hq.out
   have h5:=bDrN h4 nq
   have E9:Blk (w4.drewN nq) W.heap.size 81 cs:=E8
   have S9:Blk (w4.drewN nq) (W.heap.size+1) 86 s.cl.toArray:=S8
   have D9:Blk (w4.drewN nq) g7 47 #[.slice (some ⟨b2,off2,none⟩) j.mi.length c2,.slice A3 j.mm.length c3,.slice A4 j.mo.length c4,.slice A5 j.ml.length c5,.slice A6 j.mr.length c6]:=D8
   clear p0 p1 p2 p3 p4 p5 p6 p7 p8 p9 p10 p11 p12 p13 p14 p15 p16 f1 f2 f3 f4 f5 f6 hne
   obtain ⟨-,-,p2,p3,p4,p5,p6,p7,-,-,-,-,-,-,-,-,p16⟩:=KS.out (w4.drewN nq) (bDrN (bRefl _) _)
   clear KS BL y0 y1 y2 y3 y4 h3 H3 E8 S8 D8 h4 hz hv0 i0 i1 i2 hb3 hA1 hbb1
   generalize w4.drewN nq=w5 at *
   have t3:=T3.out
   have t4:=T4.out
   have t5:=T5.out
   have t6:=T6.out
   obtain ⟨m,hm⟩:∃ m,m=s.mid.toNat:=⟨_,rfl⟩
   obtain ⟨n,hn⟩:∃ n,n=s.right.at_.toNat:=⟨_,rfl⟩
   obtain ⟨D1,hD1⟩:∃ D,Hid (j.ml[s.mid.toNat]?=some D):=⟨_,Lib.hid (List.getElem?_eq_getElem (by omega))⟩
   obtain ⟨M1,hM1⟩:∃ X,Hid (j.mm[s.mid.toNat]?=some X):=⟨_,Lib.hid (List.getElem?_eq_getElem (by omega))⟩
   obtain ⟨D2,hD2⟩:∃ D,Hid (j.mr[s.mid.toNat]?=some D):=⟨_,Lib.hid (List.getElem?_eq_getElem (by omega))⟩
   obtain ⟨O1,hO1⟩:∃ X,Hid (j.mo[s.right.at_.toNat]?=some X):=⟨_,Lib.hid (List.getElem?_eq_getElem (by omega))⟩
   obtain ⟨b3,off3,rfl,hbb3,m0,m1,m2,m3,m4,m5⟩:=Ltr_at (hA3.below h5) (show s.mid.toNat<j.mm.length by omega) hM1.out
   obtain ⟨b4,off4,rfl,hbb4,o0,o1,o2,o3,o4,o5⟩:=Ltr_at (hA4.below h5) (show s.right.at_.toNat<j.mo.length by omega) hO1.out
   obtain ⟨b5,off5,rfl,hbb5,dl1,dk1,dc1⟩:=dig_at (hA5.below h5) hA5o (show s.mid.toNat<j.ml.length by omega) hD1.out
   obtain ⟨b6,off6,rfl,hbb6,dl2,dk2,dc2⟩:=dig_at (hA6.below h5) hA6o (show s.mid.toNat<j.mr.length by omega) hD2.out
   have hz:=h5.size
   have hg8:=D9.lt
   have L1:=load_digL dl1 (show b5<w5.heap.size by omega) dc1
   have L2:=load_digL dl2 (show b6<w5.heap.size by omega) dc2
   have L3:=load_opnL (w:=w5) (g:=W.heap.size+1) (o:=1) hs.2.1 S9.lt (fun j hj=>by rw [S9.cell,List.getElem?_toArray];exact s1 j hj)
   have L4:=load_opnL (w:=w5) (g:=W.heap.size+1) (o:=37) hs.2.2.1 S9.lt (fun j hj=>by rw [S9.cell,List.getElem?_toArray];exact s37 j hj)
   obtain ⟨u1,hu1⟩:∃ u,u=commitsB D1 ⟨#[108,101,102,116]⟩ s.left:=⟨_,rfl⟩
   obtain ⟨u2,hu2⟩:∃ u,u=leadsB rest X M1 s.left.r0 s.left.r1 s.left.r2:=⟨_,rfl⟩
   obtain ⟨u3,hu3⟩:∃ u,u=commitsB D2 ⟨#[114,105,103,104,116]⟩ s.right:=⟨_,rfl⟩
   obtain ⟨u4,hu4⟩:∃ u,u=leadsB rest M1 O1 s.right.r0 s.right.r1 s.right.r2:=⟨_,rfl⟩
   have q1:=Lib.hid (fun x:Later=>later_ret (pa_commits D1 ⟨#[108,101,102,116]⟩ s.left (later w5 x) dl1 hs.2.1 (by decide) (hG.below (bCall h5 (later_below w5 x)))))
   have q2:=Lib.hid (fun x:Later=>later_ret (pa_leads rest X M1 s.left.r0 s.left.r1 s.left.r2 (later w5 x)))
   have q3:=Lib.hid (fun x:Later=>later_ret (pa_commits D2 ⟨#[114,105,103,104,116]⟩ s.right (later w5 x) dl2 hs.2.2.1 (by decide) (hG.below (bCall h5 (later_below w5 x)))))
   have q4:=Lib.hid (fun x:Later=>later_ret (pa_leads rest M1 O1 s.right.r0 s.right.r1 s.right.r2 (later w5 x)))
   have Hv2:Hid (v=(u1&&(u2&&(u3&&u4)))):=by
    show _=_
    rw [Hv1.out,Hr.out,decide_eq_true T1.out,decide_eq_true T2.out,decide_eq_true T3.out,decide_eq_true T4.out,decide_eq_true T5.out,decide_eq_true T6.out,hu1,hu2,hu3,hu4,
     List.getD_eq_getElem?_getD,List.getD_eq_getElem?_getD,List.getD_eq_getElem?_getD,List.getD_eq_getElem?_getD,List.getD_eq_getElem?_getD,hX.out,hD1.out,hD2.out,hM1.out,hO1.out];rfl
   rw [←hu1] at q1
   rw [←hu2] at q2
   rw [←hu3] at q3
   rw [←hu4] at q4
   unfold Ltr.agg at q2 q4
   have x0:=(E9.cell 2).trans hrest
   have d0:w5.cell? ⟨g7,0,none⟩=some (.slice (some ⟨b2,off2,none⟩) j.mi.length c2):=D9.cell 0
   have d1:w5.cell? ⟨g7,1,none⟩=some (.slice (some ⟨b3,off3,none⟩) j.mm.length c3):=D9.cell 1
   have d2:w5.cell? ⟨g7,2,none⟩=some (.slice (some ⟨b4,off4,none⟩) j.mo.length c4):=D9.cell 2
   have d3:w5.cell? ⟨g7,3,none⟩=some (.slice (some ⟨b5,off5,none⟩) j.ml.length c5):=D9.cell 3
   have d4:w5.cell? ⟨g7,4,none⟩=some (.slice (some ⟨b6,off6,none⟩) j.mr.length c6):=D9.cell 4
   have r0:w5.cell? ⟨W.heap.size+1,2,none⟩=some (.int .i64 s.left.r0):=(S9.cell 2).trans (by rw [List.getElem?_toArray];exact s1 1 (by omega))
   have r1:w5.cell? ⟨W.heap.size+1,3,none⟩=some (.int .i64 s.left.r1):=(S9.cell 3).trans (by rw [List.getElem?_toArray];exact s1 2 (by omega))
   have r2:w5.cell? ⟨W.heap.size+1,4,none⟩=some (.int .i64 s.left.r2):=(S9.cell 4).trans (by rw [List.getElem?_toArray];exact s1 3 (by omega))
   have r3:w5.cell? ⟨W.heap.size+1,38,none⟩=some (.int .i64 s.right.r0):=(S9.cell 38).trans (by rw [List.getElem?_toArray];exact s37 1 (by omega))
   have r4:w5.cell? ⟨W.heap.size+1,39,none⟩=some (.int .i64 s.right.r1):=(S9.cell 39).trans (by rw [List.getElem?_toArray];exact s37 2 (by omega))
   have r5:w5.cell? ⟨W.heap.size+1,40,none⟩=some (.int .i64 s.right.r2):=(S9.cell 40).trans (by rw [List.getElem?_toArray];exact s37 3 (by omega))
   have e1:(k:Int)<(j.mi.length:Int):=by omega
   have e2:s.mid<(j.mm.length:Int):=by omega
   have e3:s.mid<(j.ml.length:Int):=by omega
   have e4:s.mid<(j.mr.length:Int):=by omega
   have e5:s.right.at_<(j.mo.length:Int):=by omega
   have e6:(0:Int)≤(k:Int):=by omega
   have z1:W.heap.size<w5.heap.size:=by omega
   have z2:W.heap.size+1<w5.heap.size:=by omega
   have z3:b2<w5.heap.size:=by omega
   have z4:b3<w5.heap.size:=by omega
   have z5:b4<w5.heap.size:=by omega
   clear hu1 hu2 hu3 hu4 Hv1 Hr T1 T2 T3 T4 T5 T6 hq hLens hX hY hD1 hM1 hD2 hO1 dc1 dc2 dl1 dl2 dk1 dk2 E9 S9 D9 s0 s1 s37 s73 hA2 hA3 hA4 hA5 hA6 hA5o hA6o hA hrest hm hn m n h hs
   have H5:=Lib.hid h5
   clear h5 hG hz hl1 hl2 hl3 hl4 hl5 hbb2 hbb3 hbb4 hbb5 hbb6
   cases u1
   ·refine wp_region_later_lit w5 (bRefl _) (by kernel_rfl) (by kernel_rfl) ?_
    repeat (first | go_big_quiet_skip | (go_big_quiet_want;first | ((first | (with_reducible refine quiet_loadL L1 rfl rfl ?_) | (with_reducible refine quiet_loadL L3 rfl rfl ?_));simp only [Act.put,List.setIfInBounds_toArray,List.set_cons_zero,List.set_cons_succ];go_big_quiet_on) | (go_big_quiet_op;first | go_big_quiet_on | go_big_quiet_call (first | (go_at_call 96;exact q1.out _)))))
    refine wpQuiet_nil ?_
    rintro _ ⟨z,rfl⟩
    go_wp2_with fail
    go_ret
    exact ⟨ret_bool Hv2.out.symm,bCall H5.out (later_below _ z)⟩
   cases u2
   ·refine wp_region_later_lit w5 (bRefl _) (by kernel_rfl) (by kernel_rfl) ?_
    repeat (first | go_big_quiet_skip | (go_big_quiet_want;first | ((first | (with_reducible refine quiet_loadL L1 rfl rfl ?_) | (with_reducible refine quiet_loadL L3 rfl rfl ?_));simp only [Act.put,List.setIfInBounds_toArray,List.set_cons_zero,List.set_cons_succ];go_big_quiet_on) | (go_big_quiet_op;first | go_big_quiet_on | go_big_quiet_call (first | (go_at_call 96;exact q1.out _) | (go_at_call 97;exact q2.out _)))))
    refine wpQuiet_nil ?_
    rintro _ ⟨z,rfl⟩
    go_wp2_with fail
    go_ret
    exact ⟨ret_bool Hv2.out.symm,bCall H5.out (later_below _ z)⟩
   cases u3
   ·refine wp_region_later_lit w5 (bRefl _) (by kernel_rfl) (by kernel_rfl) ?_
    repeat (first | go_big_quiet_skip | (go_big_quiet_want;first | ((first | (with_reducible refine quiet_loadL L1 rfl rfl ?_) | (with_reducible refine quiet_loadL L3 rfl rfl ?_) | (with_reducible refine quiet_loadL L2 rfl rfl ?_) | (with_reducible refine quiet_loadL L4 rfl rfl ?_));simp only [Act.put,List.setIfInBounds_toArray,List.set_cons_zero,List.set_cons_succ];go_big_quiet_on) | (go_big_quiet_op;first | go_big_quiet_on | go_big_quiet_call (first | (go_at_call 96;first | with_reducible exact q1.out _ | exact q3.out _) | (go_at_call 97;exact q2.out _)))))
    refine wpQuiet_nil ?_
    rintro _ ⟨z,rfl⟩
    go_wp2_with fail
    go_ret
    exact ⟨ret_bool Hv2.out.symm,bCall H5.out (later_below _ z)⟩
   ·refine wp_region_later_lit w5 (bRefl _) (by kernel_rfl) (by kernel_rfl) ?_
    repeat (first | go_big_quiet_skip | (go_big_quiet_want;first | ((first | (with_reducible refine quiet_loadL L1 rfl rfl ?_) | (with_reducible refine quiet_loadL L3 rfl rfl ?_) | (with_reducible refine quiet_loadL L2 rfl rfl ?_) | (with_reducible refine quiet_loadL L4 rfl rfl ?_));simp only [Act.put,List.setIfInBounds_toArray,List.set_cons_zero,List.set_cons_succ];go_big_quiet_on) | (go_big_quiet_op;first | go_big_quiet_on | go_big_quiet_call (first | (go_at_call 96;first | with_reducible exact q1.out _ | exact q3.out _) | (go_at_call 97;first | with_reducible exact q2.out _ | exact q4.out _)))))
    refine wpQuiet_nil ?_
    rintro _ ⟨z,rfl⟩
    go_wp2_with fail
    go_ret
    exact ⟨ret_bool Hv2.out.symm,bCall H5.out (later_below _ z)⟩
end Go.Proofs.YtoeobcmmafncmaaGreatDoor
namespace Go.Proofs.YtoeobcmmafncmaaGreatDoor
open Go Go.RowKit
def KeepsC (K:Nat→Prop) (A B:World):Prop:=A.heap.size≤B.heap.size∧∀ k t cs fr,K k→A.heap[k]?=some (.cells cs t fr)→B.heap[k]?=A.heap[k]?
theorem KeepsC.refl (K:Nat→Prop) (A:World):KeepsC K A A:=⟨Nat.le_refl _,fun _ _ _ _ _ _=>rfl⟩
theorem KeepsC.trans {K:Nat→Prop} {A B C:World} (h:KeepsC K A B) (k:KeepsC K B C):KeepsC K A C :=
 ⟨Nat.le_trans h.1 k.1,fun i t cs fr hi hc=>by
  have e:=h.2 i t cs fr hi hc
  exact (k.2 i t cs fr hi (e.trans hc)).trans e⟩
theorem KeepsC.put {K:Nat→Prop} (W:World) (l:Nat) (o o':Obj) (hl:W.heap[l]?=some o) (ho:o.isCells=false):KeepsC K W (W.putObj l o') :=
 ⟨by simp,fun k t cs fr _ hc=>by
  refine World.putObj_heap_other ?_
  intro e;subst e;rw [hl] at hc;cases hc;cases ho⟩
theorem KeepsC.below {K:Nat→Prop} {A B:World} (h:Below A.heap.size A B):KeepsC K A B :=
 ⟨h.size,fun k _ _ _ _ hc=>h.block k (Array.getElem?_eq_some_iff.1 hc).1⟩
theorem KeepsC.set_ {K:Nat→Prop} {A B:World} (h:KeepsC K A B) {p:Addr} (hp:¬K p.block) (v:Value):KeepsC K A (B.setCell p v) :=
 ⟨Nat.le_trans h.1 (by simp [World.setCell]),fun k t cs fr hk hc=>(Below.heap_setCell _ _ _ _ (by intro e;exact hp (e▸hk))).trans (h.2 k t cs fr hk hc)⟩
theorem KeepsC.blk {K:Nat→Prop} {A B:World} {g:Nat} {t:TypeId} {cs:Array Value} (h:KeepsC K A B) (hg:K g) (b:Blk A g t cs):Blk B g t cs:=(h.2 g _ _ _ hg b).trans b
theorem KeepsC.cell {K:Nat→Prop} {A B:World} (h:KeepsC K A B) {p:Addr} (hp:K p.block) {v:Value} (hv:A.cell? p=some v):B.cell? p=some v:=by
 have hh:∃ t cs fr,A.heap[p.block]?=some (.cells cs t fr):=by
  unfold World.cell? at hv
  cases ho:A.heap[p.block]? with
  | none=>rw [ho] at hv;simp at hv
  | some o =>
   cases o with
   | cells cs t fr=>exact ⟨_,_,_,rfl⟩
   | _=>rw [ho] at hv;simp at hv
 obtain ⟨t,cs,fr,hc⟩:=hh
 have e:=h.2 _ _ _ _ hp hc
 unfold World.cell? at hv ⊢
 rw [e];exact hv
theorem KeepsC.rd {K:Nat→Prop} {A B:World} {B0 sz n:Nat} {S:Option Addr} {xs:List Value} (h:KeepsC K A B) (hB:∀ k,k<B0→K k) (r:Rd A B0 sz S n xs):Rd B B0 sz S n xs :=
 ⟨r.1,fun hn=>by
  obtain ⟨b,off,e,hb,hc⟩:=r.2 hn
  exact ⟨b,off,e,hb,fun j u hu=>h.cell (p:=⟨b,off+j,none⟩) (hB _ hb) (hc j u hu)⟩⟩
def RoundC {α:Type} (K:Nat→Prop) (base:World) (bl:List α→List (Nat×TypeId×Array Value)) (R:List α→Prop) (bx:Code→List α→List (Nat×TypeId×Array Value)) (Rx:Code→List α→Prop) (xs:List α) (W:World):Exit→Act→World→Prop
 | .normal,_,W'=>KeepsOthers W W'∧KeepsC K W W'∧Below base.heap.size base W'∧Blks W' (bl xs)∧R xs
 | .ret,_,W'=>KeepsOthers W W'∧Below base.heap.size base W'∧Blks W' (bx .ret xs)∧Rx .ret xs
 | .exit id,_,W'=>KeepsOthers W W'∧Below base.heap.size base W'∧Blks W' (bx (.exit id) xs)∧Rx (.exit id) xs
 | .goto t,_,W'=>KeepsOthers W W'∧Below base.heap.size base W'∧Blks W' (bx (.goto t) xs)∧Rx (.goto t) xs
 | .panic _,_,_=>False
 | .outgrown,_,_=>False
theorem wp_rangeC {P:Program} {α:Type} {g:Operand} {ps:Array Tmp} {assign body:Code} {Q:Exit→Act→World→Prop} {a:Act} {w:World} (n:Nat)
  {gf:Nat} {lb:Array Value} (hg:a.eval g = .func (.func gf) #[] lb) (eg:∀ args w,(callFunc gf args).run P w = .ok (.enter gf args) w)
  {encs:α→Array Value} {S Sp:List α→Prop} {N:Nat} (K:Nat→Prop) (hseq:SeqT (fun _=>False) (n+1) P gf lb encs (KeepsC K) S Sp N w) (hps:∀ x,(encs x).size=ps.size)
  (base:World) (hb:Below base.heap.size base w) (bl:List α→List (Nat×TypeId×Array Value)) (R:List α→Prop) (bx:Code→List α→List (Nat×TypeId×Array Value)) (Rx:Code→List α→Prop)
  (h0:Blks w (bl [])) (hR0:R [])
  (hround:∀ (l:Nat) (pre:List α) (x:α) (W:World),pre.length<N→Below base.heap.size base W→Blks W (bl pre)→R pre →
   assign.wpIn (Fence.wide.inRound l) n P (Exit.then (fun a₁ W₁=>∃ nb:List (Nat×TypeId×Array Value),KeepsOthers W W₁∧KeepsC K W W₁∧Below base.heap.size base W₁∧Blks W₁ (nb++bl pre) ∧
    ∀ (L:Nat) (W2:World),Below base.heap.size base W2→Blks W2 (nb++bl pre)→body.wpIn (Fence.wide.inRound L) n P (RoundC K base bl R bx Rx (pre++[x]) W2) a₁ W2) (fun _ _ _=>False)) { tmps:=(ps.zip (encs x)).foldl (fun t (p,v)=>t.setIfInBounds p v) a.tmps,defers:=[] } W)
  (hdone:∀ (D:Nat) (xs:List α) (W:World),base.heap.size≤D→S xs→Below base.heap.size base W→Blks W (bl xs)→R xs→W.heap[D]?=some (.deferred (some []))→Q .normal { a with defers:={ target := .collected D,args:=#[] }::a.defers } W)
  (hstop:∀ (D:Nat) (c:Code) (pre:List α) (W:World),base.heap.size≤D→Sp pre→Below base.heap.size base W→Blks W (bx c pre)→Rx c pre→W.heap[D]?=some (.deferred (some []))→c.wp P Q { a with defers:={ target := .collected D,args:=#[] }::a.defers } W) :
  (Code.rangeFunc g ps assign body).wp P Q a w:=by
 refine wp_rangeFuncT n hg eg (S:=S) (Sp:=Sp) (N:=N) (w0:=w) (T:=fun _=>False) hseq (fun _ h=>h.elim) KeepsC.trans (fun W l o o' _ hl ho _=>KeepsC.put W l o o' hl ho) (bRefl _) hps
  (fun pre W'=>Below base.heap.size base W'∧Blks W' (bl pre)∧R pre)
  (fun x a₁ pre W'=>∃ nb:List (Nat×TypeId×Array Value),Below base.heap.size base W'∧Blks W' (nb++bl pre) ∧
   ∀ (L:Nat) (W2:World),Below base.heap.size base W2→Blks W2 (nb++bl pre)→body.wpIn (Fence.wide.inRound L) n P (RoundC K base bl R bx Rx (pre++[x]) W2) a₁ W2)
  (fun c pre W'=>Below base.heap.size base W'∧Blks W' (bx c pre)∧Rx c pre)
  (fun pre A' B' row h hg hr=>⟨bGrown h.1 hg hb.size hr,Blks.kept hg hr h.2.1,h.2.2⟩)
  (fun x a pre A' B' row h hg hr=>by
   obtain ⟨nb,h1,h2,h3⟩:=h
   exact ⟨nb,bGrown h1 hg hb.size hr,Blks.kept hg hr h2,h3⟩)
  (fun c pre A' B' row h hg hr=>⟨bGrown h.1 hg hb.size hr,Blks.kept hg hr h.2.1,h.2.2⟩)
  (fun _ _ _ _ _ ht=>ht.elim)
  (fun _ _ _ _ _ _ ht=>ht.elim)
  ⟨hb,h0,hR0⟩ ?_ ?_ ?_ ?_
 ·intro l pre x W hI hlen
  refine Go.wpIn_mono (hround l pre x W hlen hI.1 hI.2.1 hI.2.2) ?_
  intro e a' w' hp
  cases e with
  | normal =>
   obtain ⟨nb,h1,h2,h3,h4,h5⟩:=hp
   exact ⟨h1,h2,nb,h3,h4,h5⟩
  | _=>exact hp
 ·intro l pre x a₁ W hI hlen
  obtain ⟨nb,h1,h2,h3⟩:=hI
  refine Go.wpIn_mono (h3 l W h1 h2) ?_
  intro e a' w' hp
  cases e with
  | normal=>exact ⟨hp.1,hp.2.1,hp.2.2.1,hp.2.2.2.1,hp.2.2.2.2⟩
  | ret=>exact ⟨hp.1,hp.2.1,hp.2.2.1,hp.2.2.2⟩
  | exit id=>exact ⟨hp.1,hp.2.1,hp.2.2.1,hp.2.2.2⟩
  | goto t=>exact ⟨hp.1,hp.2.1,hp.2.2.1,hp.2.2.2⟩
  | panic ch=>exact hp.elim
  | outgrown=>exact hp.elim
 ·intro D xs W hD hS hI hd
  exact hdone D xs W (Nat.le_trans hb.size hD) hS hI.1 hI.2.1 hI.2.2 hd
 ·intro D c pre W hD hS hI hd
  exact hstop D c pre W (Nat.le_trans hb.size hD) hS hI.1 hI.2.1 hI.2.2 hd
theorem wp_rangeCM {P:Program} {α:Type} {g:Operand} {ps:Array Tmp} {assign body:Code} {Q:Exit→Act→World→Prop} {a:Act} {w:World} (n:Nat)
  {gf:Nat} {lb:Array Value} (hg:a.eval g = .func (.func gf) #[] lb) (eg:∀ args w,(callFunc gf args).run P w = .ok (.enter gf args) w)
  {encs:α→Array Value} {S Sp:List α→Prop} {N:Nat} (K:Nat→Prop) (hseq:SeqT (fun _=>False) (n+1) P gf lb encs (KeepsC K) S Sp N w) (hps:∀ x,(encs x).size=ps.size)
  (base:World) (hb:Below base.heap.size base w) (bl:List α→List (Nat×TypeId×Array Value)) (R:List α→Prop) (bx:Code→List α→List (Nat×TypeId×Array Value)) (Rx:Code→List α→Prop)
  (D0:Nat) (o0:Obj) (hm0:w.heap[D0]?=some o0) (hc0:o0.isCells=false)
  (h0:Blks w (bl [])) (hR0:R [])
  (hround:∀ (l:Nat) (pre:List α) (x:α) (W:World),pre.length<N→Below base.heap.size base W→Blks W (bl pre)→R pre →
   assign.wpIn (Fence.wide.inRound l) n P (Exit.then (fun a₁ W₁=>∃ nb:List (Nat×TypeId×Array Value),KeepsOthers W W₁∧KeepsC K W W₁∧Below base.heap.size base W₁∧Blks W₁ (nb++bl pre) ∧
    ∀ (L:Nat) (W2:World),Below base.heap.size base W2→Blks W2 (nb++bl pre)→body.wpIn (Fence.wide.inRound L) n P (RoundC K base bl R bx Rx (pre++[x]) W2) a₁ W2) (fun _ _ _=>False)) { tmps:=(ps.zip (encs x)).foldl (fun t (p,v)=>t.setIfInBounds p v) a.tmps,defers:=[] } W)
  (hdone:∀ (D:Nat) (xs:List α) (W:World),base.heap.size≤D→S xs→Below base.heap.size base W→Blks W (bl xs)→R xs→W.heap[D]?=some (.deferred (some []))→W.heap[D0]?=some o0→D0<D→Q .normal { a with defers:={ target := .collected D,args:=#[] }::a.defers } W)
  (hstop:∀ (D:Nat) (c:Code) (pre:List α) (W:World),base.heap.size≤D→Sp pre→Below base.heap.size base W→Blks W (bx c pre)→Rx c pre→W.heap[D]?=some (.deferred (some []))→W.heap[D0]?=some o0→D0<D→c.wp P Q { a with defers:={ target := .collected D,args:=#[] }::a.defers } W) :
  (Code.rangeFunc g ps assign body).wp P Q a w:=by
 have hl0:D0<w.heap.size:=(Array.getElem?_eq_some_iff.1 hm0).1
 have hgm:∀ {A' B':World} {row:Option Nat},A'.heap[D0]?=some o0→A'.grownBy B' row→(∀ r,row=some r→w.heap.size≤r∧∃ o:Obj,A'.heap[r]?=some o∧o.isCells=false)→B'.heap[D0]?=some o0:=fun hm hg hr =>
  (hg.block D0 (Array.getElem?_eq_some_iff.1 hm).1 (fun e=>by have:=(hr D0 e.symm).1;omega)).trans hm
 refine wp_rangeFuncT n hg eg (S:=S) (Sp:=Sp) (N:=N) (w0:=w) (T:=fun _=>False) hseq (fun _ h=>h.elim) KeepsC.trans (fun W l o o' _ hl ho _=>KeepsC.put W l o o' hl ho) (bRefl _) hps
  (fun pre W'=>(Below base.heap.size base W'∧Blks W' (bl pre)∧R pre)∧W'.heap[D0]?=some o0)
  (fun x a₁ pre W'=>(∃ nb:List (Nat×TypeId×Array Value),Below base.heap.size base W'∧Blks W' (nb++bl pre) ∧
   ∀ (L:Nat) (W2:World),Below base.heap.size base W2→Blks W2 (nb++bl pre)→body.wpIn (Fence.wide.inRound L) n P (RoundC K base bl R bx Rx (pre++[x]) W2) a₁ W2)∧W'.heap[D0]?=some o0)
  (fun c pre W'=>(Below base.heap.size base W'∧Blks W' (bx c pre)∧Rx c pre)∧W'.heap[D0]?=some o0)
  (fun pre A' B' row h hg hr=>⟨⟨bGrown h.1.1 hg hb.size hr,Blks.kept hg hr h.1.2.1,h.1.2.2⟩,hgm h.2 hg hr⟩)
  (fun x a pre A' B' row h hg hr=>by
   obtain ⟨⟨nb,h1,h2,h3⟩,h4⟩:=h
   exact ⟨⟨nb,bGrown h1 hg hb.size hr,Blks.kept hg hr h2,h3⟩,hgm h4 hg hr⟩)
  (fun c pre A' B' row h hg hr=>⟨⟨bGrown h.1.1 hg hb.size hr,Blks.kept hg hr h.1.2.1,h.1.2.2⟩,hgm h.2 hg hr⟩)
  (fun _ _ _ _ _ ht=>ht.elim)
  (fun _ _ _ _ _ _ ht=>ht.elim)
  ⟨⟨hb,h0,hR0⟩,hm0⟩ ?_ ?_ ?_ ?_
 ·intro l pre x W hI hlen
  refine Go.wpIn_mono (hround l pre x W hlen hI.1.1 hI.1.2.1 hI.1.2.2) ?_
  intro e a' w' hp
  cases e with
  | normal =>
   obtain ⟨nb,h1,h2,h3,h4,h5⟩:=hp
   exact ⟨h1,h2,⟨nb,h3,h4,h5⟩,h1.same _ _ hI.2 hc0⟩
  | _=>exact hp
 ·intro l pre x a₁ W hI hlen
  obtain ⟨⟨nb,h1,h2,h3⟩,h4⟩:=hI
  refine Go.wpIn_mono (h3 l W h1 h2) ?_
  intro e a' w' hp
  cases e with
  | normal=>exact ⟨hp.1,hp.2.1,⟨hp.2.2.1,hp.2.2.2.1,hp.2.2.2.2⟩,hp.1.same _ _ h4 hc0⟩
  | ret=>exact ⟨hp.1,⟨hp.2.1,hp.2.2.1,hp.2.2.2⟩,hp.1.same _ _ h4 hc0⟩
  | exit id=>exact ⟨hp.1,⟨hp.2.1,hp.2.2.1,hp.2.2.2⟩,hp.1.same _ _ h4 hc0⟩
  | goto t=>exact ⟨hp.1,⟨hp.2.1,hp.2.2.1,hp.2.2.2⟩,hp.1.same _ _ h4 hc0⟩
  | panic ch=>exact hp.elim
  | outgrown=>exact hp.elim
 ·intro D xs W hD hS hI hd
  exact hdone D xs W (Nat.le_trans hb.size hD) hS hI.1.1 hI.1.2.1 hI.1.2.2 hd hI.2 (by omega)
 ·intro D c pre W hD hS hI hd
  exact hstop D c pre W (Nat.le_trans hb.size hD) hS hI.1.1 hI.1.2.1 hI.1.2.2 hd hI.2 (by omega)
end Go.Proofs.YtoeobcmmafncmaaGreatDoor
namespace Go.Proofs.YtoeobcmmafncmaaGreatDoor
open Go.RowKit
attribute [local go_sem] Oper.semAt_some
theorem offices_any (cs:Array Value) (v:Value) (w:World) (hv:∃ A n c,v = .slice A n c) :
  Calls Tryz.prog 24 #[.agg cs,v] w fun r w' =>
   r = .returned (.func (.func 56) #[] #[.pointer (some ⟨w.heap.size,0,none⟩),.pointer (some ⟨w.heap.size+1,0,none⟩)])∧w'=(w.alloc (.cells cs 33)).alloc (.cells #[v] 22):=by
 have hmf:∀ (fn:Fn) (first cap:Array Value) (w:World),(Instr.makeFunc fn first cap).run Tryz.prog w = .ok (.func fn first cap) w:=fun _ _ _ _=>rfl
 obtain ⟨A,n,c,rfl⟩:=hv
 go_enter Tryz.func24,Tryz.ntmps24
 go_wp2
 go_ret
 exact ⟨rfl,rfl⟩
def upto (n k:Nat):List (Fin n):=(List.finRange n).take k
theorem upto_zero (n:Nat):upto n 0=[]:=by simp [upto]
theorem upto_succ {n k:Nat} (h:k<n):upto n k++[⟨k,h⟩]=upto n (k+1):=by
 unfold upto
 rw [List.take_succ_eq_append_getElem (by simpa using h)]
 simp
theorem upto_length {n k:Nat} (h:k≤n):(upto n k).length=k:=by
 unfold upto;rw [List.length_take,List.length_finRange];omega
def inV (v0:Value) (jobs:List (Array Value)) (em:Nat→Bool):Nat→Value
 | 0=>v0
 | k+1=>((jobs.getD k #[])[if em k then 0 else 4]?).getD undef
def shc (v0:Value) (keys rests:List Int) (jobs:List (Array Value)) (em:Nat→Bool) (k:Nat):Array Value :=
 #[inV v0 jobs em k,.int .i64 (keys.getD k 0),.int .i64 (rests.getD (k+1) 0)]++jobs.getD k #[]
def offE (v0:Value) (keys rests:List Int) (jobs:List (Array Value)) (em:Nat→Bool) {n:Nat} (i:Fin n):Array Value:=#[.int .i64 (i.val:Nat),.agg (shc v0 keys rests jobs em i.val)]
def JobC (jc:Array Value) (e:Bool):Prop:=jc.size=49∧(∀ v∈jc.toList,v.oneCell'=true)∧(∃ A n c,jc[0]?=some (.slice A n c))∧Lens3 (fun i=>jc[i]?) e
theorem inV_slice {A0:Option Addr} {n0 c0:Nat} {jobs:List (Array Value)} {em:Nat→Bool} (hjobs:∀ k jc,jobs[k]?=some jc→JobC jc (em k)):∀ {k:Nat},k≤jobs.length→∃ A n c,inV (.slice A0 n0 c0) jobs em k = .slice A n c
 | 0,_=>⟨A0,n0,c0,rfl⟩
 | k+1,h=>by
  have hj:jobs[k]?=some jobs[k]:=List.getElem?_eq_getElem (by omega)
  obtain ⟨-,-,⟨A,n,c,h0⟩,⟨_,_,_,_,_,_,A3,n3,c3,_,_,h4,_⟩⟩:=hjobs k _ hj
  show ∃ A n c,((jobs.getD k #[])[if em k then 0 else 4]?).getD undef=_
  rw [List.getD_eq_getElem?_getD,hj]
  show ∃ A n c,((jobs[k])[if em k then 0 else 4]?).getD undef=_
  cases em k
  ·exact ⟨A3,n3,c3,by rw [if_neg (by simp)];exact congrArg (fun o=>Option.getD o undef) h4⟩
  ·exact ⟨A,n,c,by rw [if_pos rfl];exact congrArg (fun o=>Option.getD o undef) h0⟩
theorem foldl_put (o:Nat):∀ (l:List Value) (s:Nat) (init:Array Value) (i:Nat),o+s+l.length≤init.size →
  ((l.zipIdx s).foldl (fun cs x=>cs.setIfInBounds (o+x.2) x.1) init)[i]?=if o+s≤i∧i<o+s+l.length then l[i - (o+s)]? else init[i]?
 | [],s,init,i,h=>by
  rw [if_neg (by simp only [List.length_nil];omega)];rfl
 | v::l,s,init,i,h=>by
  rw [List.zipIdx_cons,List.foldl_cons,foldl_put o l (s+1) _ i (by simp at h ⊢;omega)]
  simp only [List.length_cons] at h ⊢
  by_cases h1:o+s=i
  ·subst h1
   rw [if_neg (by omega),if_pos (by omega),Array.getElem?_setIfInBounds_self_of_lt (by omega)]
   simp
  ·rw [Array.getElem?_setIfInBounds_ne h1]
   by_cases h2:o+(s+1)≤i∧i<o+(s+1)+l.length
   ·rw [if_pos h2,if_pos (by omega)]
    rw [show i - (o+s)=(i - (o+(s+1)))+1 by omega]
    rfl
   ·rw [if_neg h2,if_neg (by omega)]
theorem build_shown {jc:Array Value} (h:jc.size=49) (a b c:Value) :
  Array.foldl (fun cs x=>cs.setIfInBounds (3+x.snd) x.fst) #[a,b,c,.slice none 0 0,.slice none 0 0,.slice none 0 0,.slice none 0 0,.slice none 0 0,.slice none 0 0,.slice none 0 0,.int .i64 0,.int .i64 0,.int .i64 0,.int .i64 0,.int .i64 0,.int .i64 0,.int .i64 0,.int .u8 0,.int .u8 0,.int .u8 0,.int .u8 0,.int .u8 0,.int .u8 0,.int .u8 0,.int .u8 0,.int .u8 0,.int .u8 0,.int .u8 0,.int .u8 0,.int .u8 0,.int .u8 0,.int .u8 0,.int .u8 0,.int .u8 0,.int .u8 0,.int .u8 0,.int .u8 0,.int .u8 0,.int .u8 0,.int .u8 0,.int .u8 0,.int .u8 0,.int .u8 0,.int .u8 0,.int .u8 0,.int .u8 0,.int .u8 0,.int .u8 0,.int .u8 0,.int .i64 0,.int .i64 0,.int .i64 0] jc.zipIdx 0 49=#[a,b,c]++jc:=by
 have e:Array.foldl (fun (cs:Array Value) (x:Value×Nat)=>cs.setIfInBounds (3+x.snd) x.fst) #[a,b,c,.slice none 0 0,.slice none 0 0,.slice none 0 0,.slice none 0 0,.slice none 0 0,.slice none 0 0,.slice none 0 0,.int .i64 0,.int .i64 0,.int .i64 0,.int .i64 0,.int .i64 0,.int .i64 0,.int .i64 0,.int .u8 0,.int .u8 0,.int .u8 0,.int .u8 0,.int .u8 0,.int .u8 0,.int .u8 0,.int .u8 0,.int .u8 0,.int .u8 0,.int .u8 0,.int .u8 0,.int .u8 0,.int .u8 0,.int .u8 0,.int .u8 0,.int .u8 0,.int .u8 0,.int .u8 0,.int .u8 0,.int .u8 0,.int .u8 0,.int .u8 0,.int .u8 0,.int .u8 0,.int .u8 0,.int .u8 0,.int .u8 0,.int .u8 0,.int .u8 0,.int .u8 0,.int .u8 0,.int .i64 0,.int .i64 0,.int .i64 0] jc.zipIdx 0 49 =
   (jc.toList.zipIdx 0).foldl (fun cs x=>cs.setIfInBounds (3+x.2) x.1) #[a,b,c,.slice none 0 0,.slice none 0 0,.slice none 0 0,.slice none 0 0,.slice none 0 0,.slice none 0 0,.slice none 0 0,.int .i64 0,.int .i64 0,.int .i64 0,.int .i64 0,.int .i64 0,.int .i64 0,.int .i64 0,.int .u8 0,.int .u8 0,.int .u8 0,.int .u8 0,.int .u8 0,.int .u8 0,.int .u8 0,.int .u8 0,.int .u8 0,.int .u8 0,.int .u8 0,.int .u8 0,.int .u8 0,.int .u8 0,.int .u8 0,.int .u8 0,.int .u8 0,.int .u8 0,.int .u8 0,.int .u8 0,.int .u8 0,.int .u8 0,.int .u8 0,.int .u8 0,.int .u8 0,.int .u8 0,.int .u8 0,.int .u8 0,.int .u8 0,.int .u8 0,.int .u8 0,.int .u8 0,.int .i64 0,.int .i64 0,.int .i64 0]:=by
  have hs:jc.zipIdx.size=49:=by simp [h]
  rw [←hs,←Array.foldl_toList]
  simp
 rw [e]
 apply Array.ext_getElem?
 intro i
 have hl:jc.toList.length=49:=by simp [h]
 rw [foldl_put 3 jc.toList 0 _ i (by rw [hl];exact Nat.le_refl 52),hl,Array.getElem?_append]
 by_cases hi:3+0≤i∧i<3+0+49
 ·rw [if_pos hi,if_neg (by simp;omega)]
  simp
 ·rw [if_neg hi]
  by_cases h3:i<3
  ·rw [if_pos (by simpa using h3)]
   obtain rfl | rfl | rfl:i=0∨i=1∨i=2:=by omega
   all_goals rfl
  ·rw [if_neg (by simp;omega),Array.getElem?_eq_none (by simp;omega),Array.getElem?_eq_none (by simp;omega)]
theorem wpListIn_load {F:Fence} {n:Nat} {P:Program} {ops:Array Oper} {rest:List Oper} {o:Oper} {a:Act} {w:World} {Q:Exit→Act→World→Prop} (hgd:o.guard=none) {ty:TypeId} {x:Operand} (ho:o.op = .load ty x) {q v:Value} (hx:a.eval x=q)
  (hl:(Instr.loadAt ty q).run P w = .ok v w) (h:wpListIn F n P ops Q rest (a.put o.dst v) w):wpListIn F n P ops Q (o::rest) a w :=
 wpListIn_plain hgd fun K hK=>by
  refine ⟨fun f hf=>(by unfold Oper.about at hf;rw [ho] at hf;cases hf),?_⟩
  have e:=exec_load ho hx hl
  have hs:o.semAt F.round a.eval=execOp a.eval o:=by
   cases F.round with
   | none=>rfl
   | some l=>exact Oper.semAt_some _ _ _ (by rw [ho];intro c h;cases h)
  rw [hs,e]
  exact hK _ _ h
theorem load_blk {w:World} {g:Nat} {t ty:TypeId} {cs:Array Value} {d:TypeDesc} (h:Blk w g t cs) (hu:Tryz.prog.underlying ty=some d) (hd:d.isRow=true) (hi:(Tryz.prog.info? ty).map (·.size)=some cs.size) :
  (Instr.loadAt ty (.pointer (some ⟨g,0,none⟩))).run Tryz.prog w = .ok (.agg cs) w:=by
 have:=run_loadAt_mid (P:=Tryz.prog) w g 0 ty cs.toList d (fun j v hj=>by rw [Nat.zero_add,h.cell];simpa using hj) hu hd (by rw [Array.length_toList];exact hi)
 rwa [Array.toArray_toList] at this
theorem setRow_alloc_drew (w:World) (cur cs:Array Value) (t:TypeId):(w.alloc (.cells cur t)).drew.setRow w.heap.size cs=(w.alloc (.cells cs t)).drew:=by
 have:=setRow_alloc w cur cs t
 show ((w.alloc (.cells cur t)).setRow w.heap.size cs).drew=_
 rw [this]
theorem job_info:(Tryz.prog.info? 55).map (·.size)=some 49:=by kernel_rfl
theorem shown_info:(Tryz.prog.info? 81).map (·.size)=some 52:=by kernel_rfl
theorem off_loop (L cb rb g B nj ck cj cr:Nat) (AK AJ:Option Addr) (cs:Array Value) (v0:Value) (keys rests:List Int) (jobs:List (Array Value)) (em:Nat→Bool) (K:Nat→Prop) (J Jx:List (Fin nj)→World→Prop) (W:World)
  (hcb:K cb) (hrb:K rb) (hKg:K g) (hKB:∀ k,k<B→K k) (hKn:∀ k,W.heap.size≤k→K k) (hJ:AbT (fun _=>False) W.heap.size J)
  (hY:∀ pre x W1,J pre W1→pre.length<nj→YieldAt Fence.wide (2+1 - 1) Tryz.prog L (offE v0 keys rests jobs em x) W1 fun e W' =>
   (e = .returned (.bool true)∧J (pre++[x]) W'∧KeepsC K W1 W')∨(e = .returned (.bool false)∧Jx (pre++[x]) W'))
  (hBW:B≤W.heap.size) (hBc:Blk W cb 33 cs) (hBr:Blk W rb 22 #[.slice (some ⟨g,0,none⟩) (nj+1) cr]) (hBg:Blk W g 3 (ints rests).toArray)
  (h3:cs[3]?=some v0) (hv0:∃ A n c,v0 = .slice A n c) (h4:cs[4]?=some (.slice AK nj ck)) (h5:cs[5]?=some (.slice AJ nj cj))
  (hK:Rd W B 1 AK nj (ints keys)) (hJb:Rd W B 49 AJ nj (jobs.flatMap Array.toList)) (hjobs:∀ k jc,jobs[k]?=some jc→JobC jc (em k)) (hjl:jobs.length=nj) (hkl:keys.length=nj) (hrl:rests.length=nj+1) (hn:nj≤1000) (h0:J [] W) :
  CallsIn Fence.wide (2+1) Tryz.prog 56 #[.func (.yield L) #[] #[],.pointer (some ⟨cb,0,none⟩),.pointer (some ⟨rb,0,none⟩)] W fun e W'=>(∃ v,e = .returned v) ∧
   ((∃ ys,ys=upto nj nj∧J ys W')∨(∃ pre,(∃ k,k<nj∧pre=upto nj (k+1))∧Jx pre W')):=by
 obtain ⟨A0,n0,c0,rfl⟩:=hv0
 refine callsIn_of_wp Tryz.func56 rfl trivial ?_ rfl
 simp only [Tryz.ntmps56,List.size_toArray,List.length_cons,List.length_nil,Nat.reduceAdd,Nat.reduceSub,Array.replicate_succ,Array.replicate_zero,List.push_toArray,List.append_toArray,List.nil_append,List.cons_append]
 have d3:=(hBc.cell 3).trans h3
 have d5:=(hBc.cell 5).trans h5
 gi_wp2
 gi_loopw [13,4] (fun i vi wr=>∃ (k:Nat),k≤nj∧i = .int .i64 k∧vi=inV (.slice A0 n0 c0) jobs em k∧Blk wr cb 33 cs∧Blk wr rb 22 #[.slice (some ⟨g,0,none⟩) (nj+1) cr]∧Blk wr g 3 (ints rests).toArray ∧
  Rd wr B 1 AK nj (ints keys)∧Rd wr B 49 AJ nj (jobs.flatMap Array.toList)∧W.heap.size≤wr.heap.size∧J (upto nj k) wr) (fun i _ _=>nj - (intOf i).toNat)
 case atStart=>exact ⟨0,Nat.zero_le _,rfl,rfl,hBc,hBr,hBg,hK,hJb,Nat.le_refl _,by rw [upto_zero];exact h0⟩
 case round =>
  clear hBc hBr hBg hK hJb h0 d3 d5
  obtain ⟨k,hkn,rfl,hvi,hBc,hBr,hBg,hK,hJb,hsz,hJ1⟩:=hrel
  have d4:=(hBc.cell 4).trans h4
  by_cases hlt:k<nj
  ·obtain ⟨A4,n4,c4,hv4⟩:∃ A n c,inV (.slice A0 n0 c0) jobs em k = .slice A n c:=inV_slice hjobs (by omega)
   obtain ⟨jc,hjc⟩:∃ jc,Hid (jobs[k]?=some jc):=⟨_,Lib.hid (List.getElem?_eq_getElem (by omega))⟩
   obtain ⟨hs49,hone,⟨B0,m0,e0,hj0⟩,hl3⟩:=hjobs k jc hjc.out
   obtain ⟨bj,offj,rfl,hbj,hcj⟩:=hJb.2 (by omega)
   have hrange:wr.rangeAt bj (offj+k*49) jc.toList:=fun j v hj=>by
    rw [Nat.add_assoc]
    refine hcj _ _ ?_
    have hj49:j<49:=by have:=(List.getElem?_eq_some_iff.1 hj).1;simpa [hs49] using this
    rw [flat_mem jobs k j jc (fun y hy=>by obtain ⟨i,hi⟩:=List.getElem?_of_mem hy;simpa using (hjobs i y hi).1) hjc.out hj49]
    exact hj
   rw [hv4] at hvi
   subst hvi
   have HV:=Lib.hid hv4
   have i0:(0:Int)≤(k:Int):=by omega
   have i1:(k:Int)<(nj:Int):=by omega
   clear hv4
   refine wpIn_wide.2 ?_
   go_upto_region 3 with fail
   apply wp_region_lit
   iterate 6 go_step
   refine wpList_load_mid rfl 55 (.tmp 16) rfl bj (offj+k*49) rfl jc.toList _ hrange Tryz.underlying55 rfl (by rw [Array.length_toList,hs49];exact job_info) ?_
   rw [Array.toArray_toList]
   iterate 6 go_step
   have hone':jc.all (·.oneCell')=true:=by have:=all_oneCell_toArray hone;simpa using this
   refine wpList_store_row rfl 55 (.tmp 6) (.tmp 17) rfl wr.heap.size jc rfl rfl 55 _ (Blk.new wr _ _ _ rfl) (by rw [hs49];exact job_info) (by rw [hs49];rfl) hone' ?_
   rw [setRow_alloc]
   have BJ:Blk (wr.alloc (.cells jc 55)) wr.heap.size 55 jc:=Blk.new wr _ _ _ rfl
   have hb1:=bAl (bRefl wr) (.cells jc 55)
   obtain ⟨ky,hky⟩:∃ x,Hid (keys[k]?=some x):=⟨_,Lib.hid (List.getElem?_eq_getElem (by omega))⟩
   obtain ⟨rt,hrt⟩:∃ x,Hid (rests[k+1]?=some x):=⟨_,Lib.hid (List.getElem?_eq_getElem (by omega))⟩
   obtain ⟨bk,offk,rfl,hbk,ck0⟩:=Int_at hK hlt hky.out
   have hBw:B≤wr.heap.size:=by omega
   have hJ2:=hJ.1 _ _ _ none hJ1 (World.grownBy_alloc wr (.cells jc 55) none) (by intro r e;cases e)
   generalize wr.alloc (.cells jc 55)=w1 at *
   have KS:Hid (∀ w',Below w1.heap.size w1 w'→_):=Lib.hid (fun w' h=>and6 (run_loadAt_mid (P:=Tryz.prog) w' wr.heap.size 0 55 jc.toList _ (fun j v hj=>by rw [Nat.zero_add,(BJ.below h BJ.lt).cell];simpa using hj) Tryz.underlying55 rfl (by rw [Array.length_toList,hs49];exact job_info))
    (((hBc.below (bCall hb1 h) hBc.lt).cell 4).trans h4) (((bCall hb1 h).cell (p:=⟨bk,offk+k,none⟩) (by show bk<_;omega)).trans ck0) ((hBr.below (bCall hb1 h) hBr.lt).cell 0)
    (((hBg.below (bCall hb1 h) hBg.lt).cell (k+1)).trans (show (ints rests).toArray[k+1]?=some (.int .i64 rt) by rw [List.getElem?_toArray];exact ints_at hrt.out)) trivial)
   rw [Array.toArray_toList] at KS
   go_upto_region 4 with fail
   have i2:IntKind.i64.wrap ((k:Int)+1)=(k:Int)+1:=by rw [IntKind.wrap_i64];omega
   have i3:((k:Int)+1).toNat=k+1:=by omega
   have i4:(k:Int)+1<(nj:Int)+1:=by omega
   have i5:(0:Int)≤(k:Int)+1:=by omega
   refine wp_region_maskB (f:=14) (n:=1) KS [1,1,2,1,1,2,2,1,1,1,2,2,1,0,0] ?_
   simp only [pickH,pickT]
   iterate 2 refine wpHeads_t ?_
   refine wpHeads_r ?_
   iterate 2 refine wpHeads_t ?_
   iterate 2 refine wpHeads_r ?_
   iterate 3 refine wpHeads_t ?_
   refine wpHeads_r ?_
   refine wpHeads_r (v:=?v1) (hv:=?h1) ?_;case h1=>(intro w hSw;(first | refine (exec_load rfl rfl hSw.1).trans ?_ | refine (exec_load rfl rfl hSw.2.1).trans ?_ | refine (exec_load rfl rfl hSw.2.2.1).trans ?_ | refine (exec_load rfl rfl hSw.2.2.2.1).trans ?_);with_reducible rfl)
   refine wpHeads_t ?_
   refine wpHeads_nil ?_
   iterate 1 (refine wpTailS_cons (fun K hK=>?_);go_simp;(first | (fail) | skip);refine mask_go hK KS ?_;clear hK K)
   refine wpTailS_zero ?_
   rw [build_shown hs49]
   have hX:∀ v∈((#[.slice A4 n4 c4,.int .i64 ky,.int .i64 rt]:Array Value)++jc).toList,v.oneCell'=true:=by
    intro v hv
    rw [Array.toList_append] at hv
    rcases List.mem_append.1 hv with hv | hv
    ·simp only [List.mem_cons,List.not_mem_nil,or_false] at hv
     rcases hv with rfl | rfl | rfl <;> rfl
    ·exact hone v hv
   have hX':((#[.slice A4 n4 c4,.int .i64 ky,.int .i64 rt]:Array Value)++jc).all (·.oneCell')=true:=by have:=all_oneCell_toArray hX;rwa [Array.toArray_toList] at this
   have hXs:((#[.slice A4 n4 c4,.int .i64 ky,.int .i64 rt]:Array Value)++jc).size=52:=by simp [hs49]
   have hXe:offE (.slice A0 n0 c0) keys rests jobs em (⟨k,hlt⟩:Fin nj)=#[.int .i64 (k:Nat),.agg ((#[.slice A4 n4 c4,.int .i64 ky,.int .i64 rt]:Array Value)++jc)]:=by
    unfold offE shc
    rw [HV.out,List.getD_eq_getElem?_getD (l:=keys),List.getD_eq_getElem?_getD (l:=rests),List.getD_eq_getElem?_getD (l:=jobs),hky.out,hrt.out,hjc.out]
    rfl
   have hX3:∀ i,((#[.slice A4 n4 c4,.int .i64 ky,.int .i64 rt]:Array Value)++jc)[3+i]?=jc[i]?:=fun i=>by
    rw [Array.getElem?_append_right (by simp)];simp
   generalize ((#[.slice A4 n4 c4,.int .i64 ky,.int .i64 rt]:Array Value)++jc)=X at *
   refine wpList_store_row (by rfl) 81 (.tmp 7) (.tmp 30) (by rfl) w1.heap.size X (by rfl) (by rfl) 81 _ (Blk.dr (Blk.new w1 _ _ _ rfl)) (by rw [hXs];exact shown_info) (by rw [hXs];rfl) hX' ?_
   rw [setRow_alloc_drew]
   have BX:Blk (w1.alloc (.cells X 81)).drew w1.heap.size 81 X:=Blk.dr (Blk.new w1 _ _ _ rfl)
   have BJ2:=Blk.dr (BJ.alloc (.cells X 81))
   have hb2:=bDr (bAl hb1 (.cells X 81))
   have hJ3:=hJ.1 _ _ _ none (hJ.1 _ _ _ none hJ2 (World.grownBy_alloc w1 (.cells X 81) none) (by intro r e;cases e)) (grownBy_below (bDr (bRefl (w1.alloc (.cells X 81)))) none) (by intro r e;cases e)
   have hw1:=hb1.size
   have hw2:=BJ.lt
   clear BJ hb1 KS hJ2 i2 i3 i4 i5
   generalize (w1.alloc (.cells X 81)).drew=w2 at *
   have Bc2:=hBc.below hb2 hBc.lt
   have Br2:=hBr.below hb2 hBr.lt
   have Bg2:=hBg.below hb2 hBg.lt
   have K2:=hK.below (hb2.mono hBw)
   have J2:=hJb.below (hb2.mono hBw)
   have hlen:(upto nj k).length<nj:=by rw [upto_length (by omega)];exact hlt
   obtain ⟨fn,tmps,assign,body,hy,hR⟩:=hY (upto nj k) ⟨k,hlt⟩ _ hJ3 hlen
   rw [hXe] at hy
   rw [upto_succ hlt] at hR
   clear hY hXe hX hX' hJ3 hJ1 hrange hcj ck0 hBc hBr hBg hK hJb hone hone'
   go_upto_region 5 with fail
   refine NoPanic.normal ?_
   go_upto_region 5 with fail
   refine (wpIn_wide (n:=3)).1 ?_
   apply wpIn_region_lit
   have LX:(Instr.loadAt 81 (.pointer (some ⟨w1.heap.size,0,none⟩))).run Tryz.prog w2 = .ok (.agg X) w2:=load_blk BX Tryz.underlying81 rfl (by rw [hXs];exact shown_info)
   iterate 6 gi_step
   refine wpListIn_load rfl rfl rfl LX ?_
   gi_wp2
   refine hR.mono ?_
   rintro e W3 (⟨rfl,hJ3,hk3⟩ | ⟨rfl,hJx3⟩)
   ·have Bc3:=hk3.blk hcb Bc2
    have Br3:=hk3.blk hrb Br2
    have Bg3:=hk3.blk hKg Bg2
    have K3:=hk3.rd hKB K2
    have J3:=hk3.rd hKB J2
    have BX3:=hk3.blk (hKn _ (by omega)) BX
    have BJ3:=hk3.blk (hKn _ (by omega)) BJ2
    have hs3:=Nat.le_trans (show W.heap.size≤w2.heap.size by have:=hb2.size;omega) hk3.1
    clear hy LX Bc2 Br2 Bg2 K2 J2 BX BJ2 hk3 hb2
    have hl3':=hl3
    obtain ⟨A1,n1,c1,A2,n2,c2,A3,n3,c3,-,-,h4',-,-,-,-⟩:=hl3'
    have y4:W3.cell? ⟨wr.heap.size,4,none⟩=some (.slice A3 n3 c3):=(BJ3.cell 4).trans h4'
    have y0:W3.cell? ⟨wr.heap.size,0,none⟩=some (.slice B0 m0 e0):=(BJ3.cell 0).trans hj0
    have hl4:Lens3 (fun i=>X[3+i]?) (em k):=by simp only [hX3];exact hl3
    have hin0:Hid (em k=true→inV (.slice A0 n0 c0) jobs em (k+1) = .slice B0 m0 e0):=fun he=>by
     show ((jobs.getD k #[])[if em k then 0 else 4]?).getD undef=_
     rw [List.getD_eq_getElem?_getD,hjc.out,he]
     exact congrArg (fun o=>Option.getD o undef) hj0
    have hin1:Hid (em k=false→inV (.slice A0 n0 c0) jobs em (k+1) = .slice A3 n3 c3):=fun he=>by
     show ((jobs.getD k #[])[if em k then 0 else 4]?).getD undef=_
     rw [List.getD_eq_getElem?_getD,hjc.out,he]
     exact congrArg (fun o=>Option.getD o undef) h4'
    gi_wp2
    go_upto_region 7 with fail
    apply wp_region_lit
    refine wpList_load_row rfl 81 (.tmp 7) rfl w1.heap.size rfl 81 X (0,0) _ BX3 Tryz.underlying81 rfl (by rw [hXs];exact shown_info) ?_
    have q:=pa_bare_ X (em k) W3 hl4
    clear hl4 hl3 hX3 BX3 hXs h4' hj0
    have i2:IntKind.i64.wrap ((k:Int)+1)=(k:Int)+1:=by rw [IntKind.wrap_i64];omega
    go_wp2_with fail
    (with_reducible refine q.mono ?_)
    rintro e w4 ⟨rfl,b4⟩
    clear q
    have y0':=(b4.cell (p:=⟨wr.heap.size,0,none⟩) BJ3.lt).trans y0
    have Bc4:=Bc3.below b4 Bc3.lt
    have Br4:=Br3.below b4 Br3.lt
    have Bg4:=Bg3.below b4 Bg3.lt
    have hBW3:B≤W3.heap.size:=by omega
    have K4:=K3.below (b4.mono hBW3)
    have J4:=J3.below (b4.mono hBW3)
    have hs4:=Nat.le_trans hs3 b4.size
    have hJ4:=hJ.1 _ _ _ none hJ3 (grownBy_below b4 none) (by intro r e;cases e)
    clear Bc3 Br3 Bg3 K3 J3 hs3 hJ3 BJ3 y0 y4 b4
    cases hem:em k
    ·have hv:=hin1.out hem
     clear hin0 hin1 hem
     go_wp2_with fail
     exact ⟨⟨k+1,by omega,by go_num,hv.symm,Bc4,Br4,Bg4,K4,J4,hs4,hJ4⟩,by simp [intOf];omega⟩
    ·have hv:=hin0.out hem
     clear hin0 hin1 hem
     go_wp2_with fail
     exact ⟨⟨k+1,by omega,by go_num,hv.symm,Bc4,Br4,Bg4,K4,J4,hs4,hJ4⟩,by simp [intOf];omega⟩
   ·gi_wp2
    go_wp2_with fail
    refine bodyPost_ret (results_none rfl _ _ _) rfl ?_
    exact ⟨⟨_,rfl⟩,.inr ⟨_,⟨k,hlt,rfl⟩,hJx3⟩⟩
  ·have:k=nj:=by omega
   subst this
   gi_wp2
   go_end0
   exact ⟨⟨_,rfl⟩,.inl ⟨_,rfl,hJ1⟩⟩
end Go.Proofs.YtoeobcmmafncmaaGreatDoor
namespace Go.Proofs.YtoeobcmmafncmaaGreatDoor
open Go.RowKit
structure Cs where
 first:List Ltr
 keys:List Int
 jobs:List Jb
 place:Int
 words:Wd
 r0:Int
 r1:Int
 r2:Int
 steps:List Stp
def zeroJ:Jb:=⟨[],[],[],[],[],[],[]⟩
def zeroS:Stp:=⟨0,⟨0,0,0,0,List.replicate 32 0⟩,⟨0,0,0,0,List.replicate 32 0⟩,-1⟩
def Cs.jobAt (c:Cs) (k:Nat):Jb:=c.jobs.getD k zeroJ
def nextL (j:Jb):List Ltr:=if j.emptyB then j.bare else j.mo
def Cs.inAt (c:Cs):Nat→List Ltr
 | 0=>c.first
 | k+1=>nextL (c.jobAt k)
def Cs.keyAt (c:Cs) (k:Nat):Int:=c.keys.getD k 0
def Cs.restAt (c:Cs) (k:Nat):Int:=(restL c.keys).getD k 0
def Cs.stepAt (c:Cs) (k:Nat):Stp:=c.steps.getD k zeroS
def Cs.bareAt (c:Cs) (i:Nat):Bool:=!(c.jobAt i).emptyB||checkBareB (c.keyAt i) (c.inAt i) (c.jobAt i).bare (c.jobAt i).proofs
def Cs.whyAt (c:Cs) (i k:Nat):Int:=if (c.stepAt i).mid = -1 then 5 else
 if strippedB (c.keyAt i) (c.inAt i) (c.jobAt i) k=true then (if openedB (c.restAt (i+1)) (c.inAt i).length (c.jobAt i) (c.stepAt i) k=true then 0 else 4) else 3
def Cs.way (c:Cs):Nat→Nat→Nat→Int×Int
 | 0,_,_=>(0,0)
 | f+1,i,k=>if (c.jobAt i).emptyB=true then c.way f (i+1) k else if c.whyAt i k=0 then c.way f (i+1) (c.stepAt i).right.at_.toNat else ((i:Int),c.whyAt i k)
def Cs.formed (c:Cs):Bool:=formedB c.keys.length c.jobs.length c.steps.length c.first c.place
def Cs.valid (c:Cs):Bool:=c.keys.all validB
def Cs.bares (c:Cs):Bool:=(List.range c.keys.length).all c.bareAt
def Cs.sealed (c:Cs):Bool:=decide (sealE (c.restAt 0) c.words.x c.words.y c.words.z=0)&&(sealV (c.restAt 0) c.words.x c.words.y c.words.z c.r0 c.r1 c.r2).eqB (c.first.getD c.place.toNat zeroL)
def Cs.check (c:Cs):Int×Int×Int :=
 if c.formed=true then (if c.valid=true then (if c.bares=true then (if c.sealed=true then ((c.way c.keys.length 0 c.place.toNat).1,(c.way c.keys.length 0 c.place.toNat).2,0) else (0,1,0)) else (0,0,550)) else (0,0,550)) else (0,0,550)
def Cs.go (c:Cs) {n:Nat} (σ:Option Nat) (i:Fin n):Option Nat:=σ.bind fun k=>if (c.jobAt i.val).emptyB=true then some k else if c.whyAt i.val k=0 then some (c.stepAt i.val).right.at_.toNat else none
theorem Cs.way_go (c:Cs) {n:Nat} (p0:Nat):∀ {k p:Nat},k≤n→(upto n k).foldl c.go (some p0)=some p→c.way n 0 p0=c.way (n - k) k p
 | 0,p,_,h=>by
  rw [upto_zero] at h
  injection h with h
  rw [h];rfl
 | k+1,p,hk,h=>by
  rw [←upto_succ (show k<n by omega),List.foldl_append,List.foldl_cons,List.foldl_nil] at h
  cases hq:(upto n k).foldl c.go (some p0) with
  | none=>rw [hq] at h;cases h
  | some q =>
   rw [hq] at h
   rw [Cs.way_go c p0 (show k≤n by omega) hq,show n - k=(n - (k+1))+1 by omega]
   change (if (c.jobAt k).emptyB=true then some q else if c.whyAt k q=0 then some (c.stepAt k).right.at_.toNat else none)=some p at h
   show (if (c.jobAt k).emptyB=true then c.way (n - (k+1)) (k+1) q else if c.whyAt k q=0 then c.way (n - (k+1)) (k+1) (c.stepAt k).right.at_.toNat else ((k:Int),c.whyAt k q))=_
   by_cases he:(c.jobAt k).emptyB=true
   ·rw [if_pos he] at h ⊢
    injection h with h;rw [h]
   ·rw [if_neg he] at h ⊢
    by_cases hw:c.whyAt k q=0
    ·rw [if_pos hw] at h ⊢
     injection h with h;rw [h]
    ·rw [if_neg hw] at h;cases h
theorem Cs.way_done (c:Cs) {n p0 p:Nat} (h:(upto n n).foldl c.go (some p0)=some p):c.way n 0 p0=(0,0):=by
 rw [c.way_go p0 (Nat.le_refl n) h,Nat.sub_self];rfl
theorem Cs.way_found (c:Cs) {n p0 k p:Nat} (hk:k<n) (h:(upto n k).foldl c.go (some p0)=some p) (he:(c.jobAt k).emptyB=false) (hw:c.whyAt k p≠0):c.way n 0 p0=((k:Int),c.whyAt k p):=by
 rw [c.way_go p0 (Nat.le_of_lt hk) h,show n - k=(n - (k+1))+1 by omega]
 show (if (c.jobAt k).emptyB=true then _ else if c.whyAt k p=0 then _ else ((k:Int),c.whyAt k p))=_
 rw [if_neg (by rw [he];simp),if_neg hw]
def legOf {n:Nat} (pre:List (Fin n)):Nat:=(pre.getLast?.map Fin.val).getD 0
def Cs.atOf (c:Cs) {n:Nat} (p0:Nat) (pre:List (Fin n)):Nat:=(pre.dropLast.foldl c.go (some p0)).getD 0
theorem legOf_snoc {n:Nat} (pre:List (Fin n)) (x:Fin n):legOf (pre++[x])=x.val:=by simp [legOf]
theorem Cs.atOf_snoc (c:Cs) {n:Nat} (p0:Nat) (pre:List (Fin n)) (x:Fin n) {p:Nat} (h:pre.foldl c.go (some p0)=some p):c.atOf p0 (pre++[x])=p:=by
 unfold Cs.atOf;rw [List.dropLast_concat,h];rfl
theorem Cs.go_bare (c:Cs) {n:Nat} {p0 p:Nat} {pre:List (Fin n)} {x:Fin n} (h:pre.foldl c.go (some p0)=some p) (he:(c.jobAt x.val).emptyB=true):(pre++[x]).foldl c.go (some p0)=some p:=by
 rw [List.foldl_append,h]
 show (if (c.jobAt x.val).emptyB=true then some p else _)=_
 rw [if_pos he]
theorem Cs.go_on (c:Cs) {n:Nat} {p0 p:Nat} {pre:List (Fin n)} {x:Fin n} (h:pre.foldl c.go (some p0)=some p) (he:(c.jobAt x.val).emptyB=false) (hw:c.whyAt x.val p=0):(pre++[x]).foldl c.go (some p0)=some (c.stepAt x.val).right.at_.toNat:=by
 rw [List.foldl_append,h]
 show (if (c.jobAt x.val).emptyB=true then some p else if c.whyAt x.val p=0 then some (c.stepAt x.val).right.at_.toNat else none)=_
 rw [if_neg (by rw [he];simp),if_pos hw]
theorem Stp.cl_length {s:Stp} (h:s.ok):s.cl.length=74:=by
 unfold Stp.cl
 rw [List.length_append,List.length_append,List.length_append,Opn.cl_length h.2.1,Opn.cl_length h.2.2.1];rfl
theorem Opn.one (o:Opn):∀ v∈o.cl,v.oneCell'=true:=by
 intro v hv
 unfold Opn.cl at hv
 rcases List.mem_append.1 hv with hv | hv
 ·simp only [List.mem_cons,List.not_mem_nil,or_false] at hv
  rcases hv with rfl | rfl | rfl | rfl <;> rfl
 ·exact byts_oneCell v hv
theorem Stp.one (s:Stp):∀ v∈s.cl,v.oneCell'=true:=by
 intro v hv
 unfold Stp.cl at hv
 rcases List.mem_append.1 hv with hv | hv
 ·simp only [List.mem_cons,List.not_mem_nil,or_false] at hv
  subst hv;rfl
 ·rcases List.mem_append.1 hv with hv | hv
  ·exact s.left.one v hv
  ·rcases List.mem_append.1 hv with hv | hv
   ·exact s.right.one v hv
   ·simp only [List.mem_cons,List.not_mem_nil,or_false] at hv
    subst hv;rfl
theorem zeroS_ok:zeroS.ok:=by
 have h0:inI 0:=⟨by omega,by omega⟩
 have ho:(⟨0,0,0,0,List.replicate 32 0⟩:Opn).ok:=⟨h0,h0,h0,h0,by simp,fun x hx=>by have:=List.eq_of_mem_replicate hx;omega⟩
 exact ⟨h0,ho,ho,⟨by show (-9223372036854775808:Int) ≤ -1;omega,by show (-1:Int)≤9223372036854775807;omega⟩⟩
theorem Cs.why5 {c:Cs} {i k:Nat} (h:(c.stepAt i).mid = -1):c.whyAt i k=5:=by unfold Cs.whyAt;rw [if_pos h]
theorem Cs.why3 {c:Cs} {i k:Nat} (h:(c.stepAt i).mid ≠ -1) (hs:strippedB (c.keyAt i) (c.inAt i) (c.jobAt i) k=false):c.whyAt i k=3:=by unfold Cs.whyAt;rw [if_neg h,if_neg (by rw [hs];simp)]
theorem Cs.why4 {c:Cs} {i k:Nat} (h:(c.stepAt i).mid ≠ -1) (hs:strippedB (c.keyAt i) (c.inAt i) (c.jobAt i) k=true) (ho:openedB (c.restAt (i+1)) (c.inAt i).length (c.jobAt i) (c.stepAt i) k=false):c.whyAt i k=4:=by
 unfold Cs.whyAt;rw [if_neg h,if_pos hs,if_neg (by rw [ho];simp)]
theorem Cs.why0 {c:Cs} {i k:Nat} (h:(c.stepAt i).mid ≠ -1) (hs:strippedB (c.keyAt i) (c.inAt i) (c.jobAt i) k=true) (ho:openedB (c.restAt (i+1)) (c.inAt i).length (c.jobAt i) (c.stepAt i) k=true):c.whyAt i k=0:=by
 unfold Cs.whyAt;rw [if_neg h,if_pos hs,if_pos ho]
theorem stripped_lt {key:Int} {inn:List Ltr} {j:Jb} {k:Nat} (h:strippedB key inn j k=true):k<inn.length∧j.bare.length=inn.length:=by
 unfold strippedB at h
 simp only [Bool.and_eq_true,decide_eq_true_eq] at h
 exact ⟨h.1,h.2.1⟩
theorem opened_lt {rest:Int} {n:Nat} {j:Jb} {s:Stp} {k:Nat} (h:openedB rest n j s k=true):0≤s.right.at_∧s.right.at_<n:=by
 unfold openedB at h
 simp only [Bool.and_eq_true,decide_eq_true_eq] at h
 exact ⟨h.2.2.2.2.2.2.1,h.2.2.2.2.2.2.2.1⟩
structure CaseAt (w:World) (B:Nat) (cs:Array Value) (jcs:List (Array Value)) (c:Cs):Prop where
 size:cs.size=15
 one:∀ v∈cs.toList,v.oneCell'=true
 first:LsAt w B cs[3]? c.first
 keys:∃ A ck,cs[4]?=some (.slice A c.keys.length ck)∧Rd w B 1 A c.keys.length (ints c.keys)
 jobs:∃ A cj,cs[5]?=some (.slice A c.jobs.length cj)∧Rd w B 49 A c.jobs.length (jcs.flatMap Array.toList)
 jlen:jcs.length=c.jobs.length
 job:∀ k jc,jcs[k]?=some jc→jc.size=49∧(∀ v∈jc.toList,v.oneCell'=true)∧JobAt w B (fun i=>jc[i]?) (c.jobAt k)∧(c.jobAt k).small
 place:cs[6]?=some (.int .i64 c.place)
 w0:cs[7]?=some (.int .i64 c.words.x)
 w1:cs[8]?=some (.int .i64 c.words.y)
 w2:cs[9]?=some (.int .i64 c.words.z)
 r0:cs[10]?=some (.int .i64 c.r0)
 r1:cs[11]?=some (.int .i64 c.r1)
 r2:cs[12]?=some (.int .i64 c.r2)
 steps:∃ A ct,cs[13]?=some (.slice A c.steps.length ct)∧Rd w B 74 A c.steps.length (c.steps.flatMap Stp.cl)
 stepOk:∀ s∈c.steps,s.ok
section
variable {w w':World} {B:Nat} {cs:Array Value} {jcs:List (Array Value)} {c:Cs}
theorem CaseAt.below (h:CaseAt w B cs jcs c) (b:Below B w w'):CaseAt w' B cs jcs c:=by
 obtain ⟨A,ck,k1,k2⟩:=h.keys
 obtain ⟨A',cj,j1,j2⟩:=h.jobs
 obtain ⟨A'',ct,s1,s2⟩:=h.steps
 exact ⟨h.size,h.one,h.first.below b,⟨A,ck,k1,k2.below b⟩,⟨A',cj,j1,j2.below b⟩,h.jlen,fun k jc hk=>by obtain ⟨a1,a2,a3,a4⟩:=h.job k jc hk;exact ⟨a1,a2,a3.below b,a4⟩,h.place,h.w0,h.w1,h.w2,h.r0,h.r1,h.r2,⟨A'',ct,s1,s2.below b⟩,h.stepOk⟩
theorem CaseAt.more {B':Nat} (h:CaseAt w B cs jcs c) (b:B≤B'):CaseAt w B' cs jcs c:=by
 obtain ⟨A,ck,k1,k2⟩:=h.keys
 obtain ⟨A',cj,j1,j2⟩:=h.jobs
 obtain ⟨A'',ct,s1,s2⟩:=h.steps
 exact ⟨h.size,h.one,h.first.more b,⟨A,ck,k1,k2.more b⟩,⟨A',cj,j1,j2.more b⟩,h.jlen,fun k jc hk=>by obtain ⟨a1,a2,a3,a4⟩:=h.job k jc hk;exact ⟨a1,a2,a3.more b,a4⟩,h.place,h.w0,h.w1,h.w2,h.r0,h.r1,h.r2,⟨A'',ct,s1,s2.more b⟩,h.stepOk⟩
def Cs.em (c:Cs) (k:Nat):Bool:=(c.jobAt k).emptyB
theorem CaseAt.jobC (h:CaseAt w B cs jcs c):∀ k jc,jcs[k]?=some jc→JobC jc (c.em k):=fun k jc hk=>by
 obtain ⟨a1,a2,a3,a4⟩:=h.job k jc hk
 obtain ⟨A,n,h0,_⟩:=a3.h0
 exact ⟨a1,a2,⟨A,_,n,h0⟩,a3.lens3 a4⟩
theorem CaseAt.shown (h:CaseAt w B cs jcs c) {v0:Value} (hv:cs[3]?=some v0) {k:Nat} (hk:k<c.jobs.length) :
  ShnAt w B (shc v0 c.keys (restL c.keys) jcs c.em k) (c.inAt k) (c.keyAt k) (c.restAt (k+1)) (c.jobAt k):=by
 obtain ⟨jc,hjc⟩:∃ jc,jcs[k]?=some jc:=⟨_,List.getElem?_eq_getElem (by rw [h.jlen];exact hk)⟩
 obtain ⟨a1,a2,a3,a4⟩:=h.job k jc hjc
 have hg:jcs.getD k #[]=jc:=by rw [List.getD_eq_getElem?_getD,hjc];rfl
 have e:∀ i,(shc v0 c.keys (restL c.keys) jcs c.em k)[3+i]?=jc[i]?:=fun i=>by
  unfold shc
  rw [hg,Array.getElem?_append_right (by simp)];simp
 refine ⟨?_,by unfold shc;rw [Array.getElem?_append_left (by simp)];rfl,by unfold shc;rw [Array.getElem?_append_left (by simp)];rfl,?_⟩
 ·have e0:(shc v0 c.keys (restL c.keys) jcs c.em k)[0]?=some (inV v0 jcs c.em k):=by
   unfold shc;rw [Array.getElem?_append_left (by simp)];rfl
  rw [e0]
  cases k with
  | zero=>rw [←show cs[3]?=some (inV v0 jcs c.em 0) from hv];exact h.first
  | succ k =>
   obtain ⟨jd,hjd⟩:∃ jd,jcs[k]?=some jd:=⟨_,List.getElem?_eq_getElem (by rw [h.jlen];omega)⟩
   obtain ⟨b1,b2,b3,b4⟩:=h.job k jd hjd
   have hd:jcs.getD k #[]=jd:=by rw [List.getD_eq_getElem?_getD,hjd];rfl
   show LsAt w B (some (((jcs.getD k #[])[if c.em k=true then 0 else 4]?).getD undef)) (nextL (c.jobAt k))
   rw [hd]
   unfold nextL
   cases he:(c.jobAt k).emptyB
   ·have:c.em k=false:=he
    rw [this,if_neg (by simp),if_neg (by simp)]
    obtain ⟨A,n,q⟩:=b3.h4
    have q0:jd[4]?=_:=q.1
    rw [q0]
    exact ⟨A,n,rfl,q.2⟩
   ·have:c.em k=true:=he
    rw [this,if_pos rfl,if_pos rfl]
    obtain ⟨A,n,q⟩:=b3.h0
    have q0:jd[0]?=_:=q.1
    rw [q0]
    exact ⟨A,n,rfl,q.2⟩
 ·rw [show (fun i=>(shc v0 c.keys (restL c.keys) jcs c.em k)[3+i]?)=fun i=>jc[i]? from funext e]
  exact a3
end
theorem CaseAt.shown_row {w:World} {B:Nat} {cs:Array Value} {jcs:List (Array Value)} {c:Cs} (h:CaseAt w B cs jcs c) (A0:Option Addr) (n0 c0:Nat) {k:Nat} (hk:k<c.jobs.length) :
  (shc (.slice A0 n0 c0) c.keys (restL c.keys) jcs c.em k).size=52∧(shc (.slice A0 n0 c0) c.keys (restL c.keys) jcs c.em k).all (·.oneCell')=true:=by
 obtain ⟨jc,hjc⟩:∃ jc,jcs[k]?=some jc:=⟨_,List.getElem?_eq_getElem (by rw [h.jlen];exact hk)⟩
 obtain ⟨a1,a2,-,-⟩:=h.job k jc hjc
 have hg:jcs.getD k #[]=jc:=by rw [List.getD_eq_getElem?_getD,hjc];rfl
 obtain ⟨A,n,cc,hi⟩:=inV_slice (A0:=A0) (n0:=n0) (c0:=c0) h.jobC (k:=k) (by rw [h.jlen];omega)
 unfold shc
 rw [hg,hi]
 refine ⟨by simp [a1],?_⟩
 have hX:∀ v∈((#[.slice A n cc,.int .i64 (c.keys.getD k 0),.int .i64 ((restL c.keys).getD (k+1) 0)]:Array Value)++jc).toList,v.oneCell'=true:=by
  intro v hv
  rw [Array.toList_append] at hv
  rcases List.mem_append.1 hv with hv | hv
  ·simp only [List.mem_cons,List.not_mem_nil,or_false] at hv
   rcases hv with rfl | rfl | rfl <;> rfl
  ·exact a2 v hv
 have:=all_oneCell_toArray hX
 rwa [Array.toArray_toList] at this
theorem inAt_small {w:World} {B:Nat} {cs:Array Value} {jcs:List (Array Value)} {c:Cs} (h:CaseAt w B cs jcs c) (hf:c.first.length≤64) {k:Nat} (hk:k≤c.jobs.length):(c.inAt k).length≤1152921504606846976:=by
 cases k with
 | zero=>show c.first.length≤_;omega
 | succ k =>
  obtain ⟨jd,hjd⟩:∃ jd,jcs[k]?=some jd:=⟨_,List.getElem?_eq_getElem (by rw [h.jlen];omega)⟩
  obtain ⟨b1,b2,b3,b4⟩:=h.job k jd hjd
  show (nextL _).length≤_
  unfold nextL
  split
  ·exact b4.1
  ·exact b4.2.2.2
end Go.Proofs.YtoeobcmmafncmaaGreatDoor

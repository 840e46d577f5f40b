/- paths.opened, walked. -/
import Derived.Test.YtgkpomdegomgiaaGreatDoorMay
import Derived.Test.YtgkpomdegomgiaaGreatDoorMak
set_option maxRecDepth 1000000
set_option maxHeartbeats 16000000
namespace Go.Proofs.YtgkpomdegomgiaaGreatDoor
open Go.RowKit
theorem and7 {a b c d e f g:Prop} (h1:a) (h2:b) (h3:c) (h4:d) (h5:e) (h6:f) (h7:g):a∧b∧c∧d∧e∧f∧g:=⟨h1,h2,h3,h4,h5,h6,h7⟩
structure Stp where
  at_:Int
  left:Opn
  right:Opn
  mid:Int
def Stp.cl (s:Stp):List Value:=[.int .i64 s.at_]++(s.left.cl++(s.right.cl++[.int .i64 s.mid]))
def Stp.ok (s:Stp):Prop:=inI s.at_∧s.left.ok∧s.right.ok∧inI s.mid
theorem Opn.cl_length {o:Opn} (h:o.ok):o.cl.length=36:=by
  obtain ⟨_,_,_,_,h,_⟩:=h
  simp [Opn.cl,byts_length,h]
theorem Stp.cells {s:Stp} (h:s.ok):s.cl[0]?=some (.int .i64 s.at_)∧(∀ j,j<36→s.cl[1+j]?=s.left.cl[j]?)∧(∀ j,j<36→s.cl[37+j]?=s.right.cl[j]?)∧s.cl[73]?=some (.int .i64 s.mid):=by
  have l1:=Opn.cl_length h.2.1
  have l2:=Opn.cl_length h.2.2.1
  unfold Stp.cl
  refine ⟨rfl,fun j hj=>?_,fun j hj=>?_,?_⟩
  · rw [List.getElem?_append_right (by simp),List.getElem?_append_left (by simp;omega)]
    simp
  · rw [List.getElem?_append_right (by simp;omega),List.getElem?_append_right (by simp;omega),List.getElem?_append_left (by simp;omega)]
    congr 1
    simp;omega
  · rw [List.getElem?_append_right (by simp),List.getElem?_append_right (by simp;omega),List.getElem?_append_right (by simp;omega)]
    simp [l1,l2]
theorem dig_at {w:World} {B n k:Nat} {A:Option Addr} {l:List (List Nat)} {d:List Nat} (h:Rd w B 32 A n (l.flatMap byts)) (ho:∀ d∈l,d.length=32∧okB d) (hk:k<n) (hd:l[k]?=some d) :
    ∃ b off,A=some ⟨b,off,none⟩∧b<B∧d.length=32∧okB d∧∀ j v,(byts d)[j]?=some v→w.cell? ⟨b,off+k*32+j,none⟩=some v:=by
  obtain ⟨b,off,e,hb,hc⟩:=h.2 (by omega)
  have hm:=ho d (List.mem_of_getElem? hd)
  refine ⟨b,off,e,hb,hm.1,hm.2,fun j v hj=>?_⟩
  rw [Nat.add_assoc]
  refine hc _ _ ?_
  have hj32:j<32:=by have:=(List.getElem?_eq_some_iff.1 hj).1;rw [byts_length,hm.1] at this;exact this
  rw [flat_mem l k j d (fun y hy=>by rw [byts_length];exact (ho y hy).1) hd hj32]
  exact hj
theorem load_digL {w:World} {g o:Nat} {d:List Nat} (hd:d.length=32) (hg:g<w.heap.size) (hc:∀ j v,(byts d)[j]?=some v→w.cell? ⟨g,o+j,none⟩=some v) (x:Later) :
    (Instr.loadAt 43 (.pointer (some ⟨g,o,none⟩))).run Tryz.prog (later w x) = .ok (.agg (byts d).toArray) (later w x) :=
  run_loadAt_mid _ g o 43 (byts d) _ (fun j v hj=>(cell_later w x _ hg).trans (hc j v hj)) dig_under rfl (by rw [byts_length,hd];exact dig_info)
theorem opn_info:(Tryz.prog.info? 95).map (·.size)=some 36:=by kernel_rfl
theorem load_opnL {w:World} {g o:Nat} {p:Opn} (hp:p.ok) (hg:g<w.heap.size) (hc:∀ j,j<36→w.cell? ⟨g,o+j,none⟩=p.cl[j]?) (x:Later) :
    (Instr.loadAt 95 (.pointer (some ⟨g,o,none⟩))).run Tryz.prog (later w x) = .ok (.agg p.cl.toArray) (later w x) :=
  run_loadAt_mid _ g o 95 p.cl _ (fun j v hj=>(cell_later w x _ hg).trans ((hc j (by have:=(List.getElem?_eq_some_iff.1 hj).1;rw [Opn.cl_length hp] at this;exact this)).trans hj)) Tryz.underlying95 rfl (by rw [Opn.cl_length hp];exact opn_info)
theorem quiet_loadL {P:Program} {o:Oper} {a:Act} {w0:World} {K:Act→Prop} {ty:TypeId} {x:Operand} {q v:Value} (L:∀ y:Later,(Instr.loadAt ty q).run P (later w0 y) = .ok v (later w0 y)) (ho:o.op = .load ty x) (hx:a.eval x=q)
    (hk:K (a.put o.dst v)):o.quiet P a (fun w'=>∃ y:Later,w'=later w0 y) K :=
  ⟨v,fun w hw=>by
    obtain ⟨y,rfl⟩:=hw
    unfold Oper.quietAt
    rw [exec_load ho hx (L y)]
    exact ⟨rfl,rfl⟩,hk⟩
def lensB (n:Nat) (j:Jb):Bool:=decide (j.mi.length=n)&&(decide (j.mm.length=n)&&(decide (j.mo.length=n)&&(decide (j.ml.length=n)&&decide (j.mr.length=n))))
def openedB (rest:Int) (n:Nat) (j:Jb) (s:Stp) (k:Nat):Bool :=
  lensB n j&&((j.mi.getD k zeroL).eqB (j.bare.getD k zeroL)&&(decide (s.at_=k)&&(decide (s.left.at_=k)&&(decide (0≤s.mid)&&(decide (s.mid<n)&&(decide (0≤s.right.at_)&&(decide (s.right.at_<n) &&
    (commitsB (j.ml.getD s.mid.toNat []) ⟨#[108,101,102,116]⟩ s.left&&(leadsB rest (j.mi.getD k zeroL) (j.mm.getD s.mid.toNat zeroL) s.left.r0 s.left.r1 s.left.r2 &&
      (commitsB (j.mr.getD s.mid.toNat []) ⟨#[114,105,103,104,116]⟩ s.right&&leadsB rest (j.mm.getD s.mid.toNat zeroL) (j.mo.getD s.right.at_.toNat zeroL) s.right.r0 s.right.r1 s.right.r2))))))))))
theorem pa_opened (cs:Array Value) (inn:List Ltr) (key rest:Int) (j:Jb) (s:Stp) (k:Nat) (W:World) (h:ShnAt W W.heap.size cs inn key rest j) (hs:s.ok) (hk:k<inn.length) (hbl:j.bare.length=inn.length) (hG:ShaG W) :
    Calls Tryz.prog 79 #[.agg cs,.agg s.cl.toArray,.int .i64 (k:Nat)] W (Ret (.bool (openedB rest inn.length j s k)) W):=by
  obtain ⟨v,hv⟩:∃ v,v=openedB rest inn.length j s k:=⟨_,rfl⟩
  rw [←hv]
  obtain ⟨A,c,h0,hA,hAc,hAm⟩:=h.hin
  obtain ⟨A1,c1,hb3,hA1,hA1c,hA1m⟩:=h.hjob.h0
  obtain ⟨A2,c2,h5,hA2,hA2c,hA2m⟩:=h.hjob.h2
  obtain ⟨A3,c3,h6,hA3,hA3c,hA3m⟩:=h.hjob.h3
  obtain ⟨A4,c4,h7,hA4,hA4c,hA4m⟩:=h.hjob.h4
  obtain ⟨A5,c5,h8,hA5,hA5c,hA5m,hA5o⟩:=h.hjob.h5
  obtain ⟨A6,c6,h9,hA6,hA6c,hA6m,hA6o⟩:=h.hjob.h6
  have hrest:=h.hrest
  obtain ⟨s0,s1,s37,s73⟩:=Stp.cells hs
  have B0:Blk ((W.alloc (.cells cs 91)).alloc (.cells s.cl.toArray 97)) W.heap.size 91 cs:=(Blk.new W _ cs _ rfl).alloc _
  have BS:Blk ((W.alloc (.cells cs 91)).alloc (.cells s.cl.toArray 97)) (W.heap.size+1) 97 s.cl.toArray:=Blk.new _ _ _ _ (by simp)
  have hb:=bAl (bAl (bRefl W) (.cells cs 91)) (.cells s.cl.toArray 97)
  go_enter Tryz.func79,Tryz.ntmps79
  go_upto_region 1 with fail
  generalize (W.alloc (.cells cs 91)).alloc (.cells s.cl.toArray 97)=w2 at *
  have KS:Hid (∀ w',Below w2.heap.size w2 w'→_):=Lib.hid (fun w' h=>and7 (((B0.below h B0.lt).cell 5).trans h5) (((B0.below h B0.lt).cell 6).trans h6) (((B0.below h B0.lt).cell 7).trans h7) (((B0.below h B0.lt).cell 8).trans h8) (((B0.below h B0.lt).cell 9).trans h9) (((B0.below h B0.lt).cell 0).trans h0) (((BS.below h BS.lt).cell 73).trans (show s.cl.toArray[73]?=some (.int .i64 s.mid) from by rw [List.getElem?_toArray];exact s73)))
  refine wp_region_maskB (f:=11) (n:=3) KS [1,1,2,1,2,1,1,2,0,0,0,0] ?_
  simp only [pickH,pickT]
  refine wpHeads_t ?_
  refine wpHeads_t ?_
  refine wpHeads_r ?_
  refine wpHeads_t ?_
  refine wpHeads_r ?_
  refine wpHeads_t ?_
  refine wpHeads_t ?_
  refine wpHeads_r ?_
  refine wpHeads_nil ?_
  iterate 3 (refine wpTailS_cons (fun K hK=>?_);go_simp;(first | (fail) | skip);refine mask_go hK KS ?_;clear hK K)
  refine wpTailS_zero ?_
  go_wp2_with fail
  refine NoPanic.normal ?_
  have hv0:=Lib.hid hv
  have D7:Blk (w2.alloc (.cells #[.slice A2 j.mi.length c2,.slice A3 j.mm.length c3,.slice A4 j.mo.length c4,.slice A5 j.ml.length c5,.slice A6 j.mr.length c6] 53)).drew w2.heap.size 53 #[.slice A2 j.mi.length c2,.slice A3 j.mm.length c3,.slice A4 j.mo.length c4,.slice A5 j.ml.length c5,.slice A6 j.mr.length c6]:=Blk.new w2 _ _ _ rfl
  have E0:=Blk.dr (B0.alloc (.cells #[.slice A2 j.mi.length c2,.slice A3 j.mm.length c3,.slice A4 j.mo.length c4,.slice A5 j.ml.length c5,.slice A6 j.mr.length c6] 53))
  have ES:=Blk.dr (BS.alloc (.cells #[.slice A2 j.mi.length c2,.slice A3 j.mm.length c3,.slice A4 j.mo.length c4,.slice A5 j.ml.length c5,.slice A6 j.mr.length c6] 53))
  have h3:=bDr (bAl hb (.cells #[.slice A2 j.mi.length c2,.slice A3 j.mm.length c3,.slice A4 j.mo.length c4,.slice A5 j.ml.length c5,.slice A6 j.mr.length c6] 53))
  have hg7:=BS.lt
  clear KS B0 BS hb hv
  generalize (w2.alloc (.cells #[.slice A2 j.mi.length c2,.slice A3 j.mm.length c3,.slice A4 j.mo.length c4,.slice A5 j.ml.length c5,.slice A6 j.mr.length c6] 53)).drew=w3 at *
  generalize w2.heap.size=g7 at *
  have x0:w3.cell? ⟨g7,0,none⟩=some (.slice A2 j.mi.length c2):=D7.cell 0
  have x1:w3.cell? ⟨g7,1,none⟩=some (.slice A3 j.mm.length c3):=D7.cell 1
  have x2:w3.cell? ⟨g7,2,none⟩=some (.slice A4 j.mo.length c4):=D7.cell 2
  have x3:w3.cell? ⟨g7,3,none⟩=some (.slice A5 j.ml.length c5):=D7.cell 3
  have x4:w3.cell? ⟨g7,4,none⟩=some (.slice A6 j.mr.length c6):=D7.cell 4
  clear h0 h5 h6 h7 h8 h9
  have H3:=Lib.hid h3
  go_upto_region 3 with fail
  obtain ⟨w4,hw4⟩:∃ w4,w4=w3.alloc (.cells #[.int .i64 j.mi.length,.int .i64 j.mm.length,.int .i64 j.mo.length,.int .i64 j.ml.length,.int .i64 j.mr.length] 3):=⟨_,rfl⟩
  have BL:Blk w4 w3.heap.size 3 #[.int .i64 j.mi.length,.int .i64 j.mm.length,.int .i64 j.mo.length,.int .i64 j.ml.length,.int .i64 j.mr.length]:=by rw [hw4];exact Blk.new w3 _ _ _ rfl
  have D8:=D7.alloc (.cells #[.int .i64 j.mi.length,.int .i64 j.mm.length,.int .i64 j.mo.length,.int .i64 j.ml.length,.int .i64 j.mr.length] 3)
  have E8:=E0.alloc (.cells #[.int .i64 j.mi.length,.int .i64 j.mm.length,.int .i64 j.mo.length,.int .i64 j.ml.length,.int .i64 j.mr.length] 3)
  have S8:=ES.alloc (.cells #[.int .i64 j.mi.length,.int .i64 j.mm.length,.int .i64 j.mo.length,.int .i64 j.ml.length,.int .i64 j.mr.length] 3)
  rw [←hw4] at D8 E8 S8
  have h4:Below W.heap.size W w4:=by rw [hw4];exact bAl H3.out _
  rw [←hw4]
  clear D7 E0 ES hw4 x0 x1 x2 x3 x4
  generalize w3.heap.size=g8 at *
  have y0:w4.cell? ⟨g8,0,none⟩=some (.int .i64 j.mi.length):=BL.cell 0
  have y1:w4.cell? ⟨g8,1,none⟩=some (.int .i64 j.mm.length):=BL.cell 1
  have y2:w4.cell? ⟨g8,2,none⟩=some (.int .i64 j.mo.length):=BL.cell 2
  have y3:w4.cell? ⟨g8,3,none⟩=some (.int .i64 j.ml.length):=BL.cell 3
  have y4:w4.cell? ⟨g8,4,none⟩=some (.int .i64 j.mr.length):=BL.cell 4
  go_loop [37] (fun i=>∃ m:Int,i = .int .i64 m∧(m=0∧Hid (True)∨m=1∧Hid (j.mi.length=inn.length)∨m=2∧Hid (j.mi.length=inn.length∧j.mm.length=inn.length)∨m=3∧Hid (j.mi.length=inn.length∧j.mm.length=inn.length∧j.mo.length=inn.length)∨m=4∧Hid (j.mi.length=inn.length∧j.mm.length=inn.length∧j.mo.length=inn.length∧j.ml.length=inn.length)∨m=5∧Hid (j.mi.length=inn.length∧j.mm.length=inn.length∧j.mo.length=inn.length∧j.ml.length=inn.length∧j.mr.length=inn.length))) (fun i=>5 - (intOf i).toNat)
  case atStart=>exact ⟨0,rfl,.inl ⟨rfl,Lib.hid trivial⟩⟩
  case round =>
    obtain ⟨m,rfl,hm⟩:=hrel
    rcases hm with ⟨rfl,hq⟩ | ⟨rfl,hq⟩ | ⟨rfl,hq⟩ | ⟨rfl,hq⟩ | ⟨rfl,hq⟩ | ⟨rfl,hq⟩
    · by_cases he : j.mi.length = inn.length
      · have t:((j.mi.length:Int) != (inn.length:Int))=false:=by rw [bne_eq_false_iff_eq];omega
        have hn:Hid (_):=Lib.hid he
        clear he
        go_wp2_with fail
        have he:=hn.out
        exact ⟨⟨1,rfl,.inr (.inl ⟨rfl,he⟩)⟩,by simp [intOf]⟩
      · have t:((j.mi.length:Int) != (inn.length:Int))=true:=by rw [bne_iff_ne];omega
        have Hv:Hid (v=false):=by show _=_;rw [hv0.out];unfold openedB lensB;rw [decide_eq_false he];simp
        clear he
        go_wp2_with fail
        go_ret
        exact ⟨ret_bool Hv.out.symm,h4⟩
    · by_cases he : j.mm.length = inn.length
      · have t:((j.mm.length:Int) != (inn.length:Int))=false:=by rw [bne_eq_false_iff_eq];omega
        have hn:Hid (_):=Lib.hid he
        clear he
        go_wp2_with fail
        have he:=hn.out
        exact ⟨⟨2,rfl,.inr (.inr (.inl ⟨rfl,⟨hq.out,he⟩⟩))⟩,by simp [intOf]⟩
      · have t:((j.mm.length:Int) != (inn.length:Int))=true:=by rw [bne_iff_ne];omega
        have Hv:Hid (v=false):=by show _=_;rw [hv0.out];unfold openedB lensB;rw [decide_eq_false he];simp
        clear he
        go_wp2_with fail
        go_ret
        exact ⟨ret_bool Hv.out.symm,h4⟩
    · by_cases he : j.mo.length = inn.length
      · have t:((j.mo.length:Int) != (inn.length:Int))=false:=by rw [bne_eq_false_iff_eq];omega
        have hn:Hid (_):=Lib.hid he
        clear he
        go_wp2_with fail
        have he:=hn.out
        exact ⟨⟨3,rfl,.inr (.inr (.inr (.inl ⟨rfl,⟨hq.out.1,hq.out.2,he⟩⟩)))⟩,by simp [intOf]⟩
      · have t:((j.mo.length:Int) != (inn.length:Int))=true:=by rw [bne_iff_ne];omega
        have Hv:Hid (v=false):=by show _=_;rw [hv0.out];unfold openedB lensB;rw [decide_eq_false he];simp
        clear he
        go_wp2_with fail
        go_ret
        exact ⟨ret_bool Hv.out.symm,h4⟩
    · by_cases he : j.ml.length = inn.length
      · have t:((j.ml.length:Int) != (inn.length:Int))=false:=by rw [bne_eq_false_iff_eq];omega
        have hn:Hid (_):=Lib.hid he
        clear he
        go_wp2_with fail
        have he:=hn.out
        exact ⟨⟨4,rfl,.inr (.inr (.inr (.inr (.inl ⟨rfl,⟨hq.out.1,hq.out.2.1,hq.out.2.2,he⟩⟩))))⟩,by simp [intOf]⟩
      · have t:((j.ml.length:Int) != (inn.length:Int))=true:=by rw [bne_iff_ne];omega
        have Hv:Hid (v=false):=by show _=_;rw [hv0.out];unfold openedB lensB;rw [decide_eq_false he];simp
        clear he
        go_wp2_with fail
        go_ret
        exact ⟨ret_bool Hv.out.symm,h4⟩
    · by_cases he : j.mr.length = inn.length
      · have t:((j.mr.length:Int) != (inn.length:Int))=false:=by rw [bne_eq_false_iff_eq];omega
        have hn:Hid (_):=Lib.hid he
        clear he
        go_wp2_with fail
        have he:=hn.out
        exact ⟨⟨5,rfl,.inr (.inr (.inr (.inr (.inr (⟨rfl,⟨hq.out.1,hq.out.2.1,hq.out.2.2.1,hq.out.2.2.2,he⟩⟩)))))⟩,by simp [intOf]⟩
      · have t:((j.mr.length:Int) != (inn.length:Int))=true:=by rw [bne_iff_ne];omega
        have Hv:Hid (v=false):=by show _=_;rw [hv0.out];unfold openedB lensB;rw [decide_eq_false he];simp
        clear he
        go_wp2_with fail
        go_ret
        exact ⟨ret_bool Hv.out.symm,h4⟩
    · obtain ⟨hl1,hl2,hl3,hl4,hl5⟩:=hq.out
      have hLens:Hid (lensB inn.length j=true):=by show _=_;unfold lensB;rw [decide_eq_true hl1,decide_eq_true hl2,decide_eq_true hl3,decide_eq_true hl4,decide_eq_true hl5];rfl
      obtain ⟨X,hX⟩:∃ X,Hid (j.mi[k]?=some X):=⟨_,Lib.hid (List.getElem?_eq_getElem (by omega))⟩
      obtain ⟨Y,hY⟩:∃ Y,Hid (j.bare[k]?=some Y):=⟨_,Lib.hid (List.getElem?_eq_getElem (by omega))⟩
      have hz:=h4.size
      obtain ⟨b2,off2,rfl,hbb2,x0,x1,x2,x3,x4,x5⟩:=Ltr_at (hA2.below h4) (show k<j.mi.length by omega) hX.out
      obtain ⟨b1,off1,rfl,hbb1,y0,y1,y2,y3,y4,y5⟩:=Ltr_at (hA1.below h4) (show k<j.bare.length by omega) hY.out
      have z0:s.cl.toArray[0]?=some (.int .i64 s.at_):=by rw [List.getElem?_toArray];exact s0
      have z1:s.cl.toArray[1]?=some (.int .i64 s.left.at_):=by rw [List.getElem?_toArray];exact s1 0 (by omega)
      have z2:s.cl.toArray[37]?=some (.int .i64 s.right.at_):=by rw [List.getElem?_toArray];exact s37 0 (by omega)
      have i0:(0:Int)≤(k:Int):=by omega
      have i1:(k:Int)<(j.mi.length:Int):=by omega
      have i2:(k:Int)<(j.bare.length:Int):=by omega
      have KS:Hid (∀ w',Below w4.heap.size w4 w'→_):=Lib.hid (fun w' h=>And.intro (show w'.cell? ⟨g7,0,none⟩=some (.slice (some ⟨b2,off2,none⟩) j.mi.length c2) from (D8.below h D8.lt).cell 0) (And.intro (((E8.below h E8.lt).cell 3).trans hb3) (And.intro ((h.cell (p:=⟨b2,off2+k*6,none⟩) (by show b2<_;omega)).trans x0) (And.intro ((h.cell (p:=⟨b2,off2+k*6+1,none⟩) (by show b2<_;omega)).trans x1) (And.intro ((h.cell (p:=⟨b2,off2+k*6+2,none⟩) (by show b2<_;omega)).trans x2) (And.intro ((h.cell (p:=⟨b2,off2+k*6+3,none⟩) (by show b2<_;omega)).trans x3) (And.intro ((h.cell (p:=⟨b2,off2+k*6+4,none⟩) (by show b2<_;omega)).trans x4) (And.intro ((h.cell (p:=⟨b2,off2+k*6+5,none⟩) (by show b2<_;omega)).trans x5) (And.intro ((h.cell (p:=⟨b1,off1+k*6,none⟩) (by show b1<_;omega)).trans y0) (And.intro ((h.cell (p:=⟨b1,off1+k*6+1,none⟩) (by show b1<_;omega)).trans y1) (And.intro ((h.cell (p:=⟨b1,off1+k*6+2,none⟩) (by show b1<_;omega)).trans y2) (And.intro ((h.cell (p:=⟨b1,off1+k*6+3,none⟩) (by show b1<_;omega)).trans y3) (And.intro ((h.cell (p:=⟨b1,off1+k*6+4,none⟩) (by show b1<_;omega)).trans y4) (And.intro ((h.cell (p:=⟨b1,off1+k*6+5,none⟩) (by show b1<_;omega)).trans y5) (And.intro (((S8.below h S8.lt).cell 0).trans z0) (And.intro (((S8.below h S8.lt).cell 1).trans z1) (((S8.below h S8.lt).cell 37).trans z2)))))))))))))))))
      have Hv1:Hid (v=((X.eqB Y)&&(decide (s.at_=k)&&(decide (s.left.at_=k)&&(decide (0≤s.mid)&&(decide (s.mid<inn.length)&&(decide (0≤s.right.at_)&&(decide (s.right.at_<inn.length) &&
        (commitsB (j.ml.getD s.mid.toNat []) ⟨#[108,101,102,116]⟩ s.left&&(leadsB rest (j.mi.getD k zeroL) (j.mm.getD s.mid.toNat zeroL) s.left.r0 s.left.r1 s.left.r2 &&
        (commitsB (j.mr.getD s.mid.toNat []) ⟨#[114,105,103,104,116]⟩ s.right&&leadsB rest (j.mm.getD s.mid.toNat zeroL) (j.mo.getD s.right.at_.toNat zeroL) s.right.r0 s.right.r1 s.right.r2))))))))))):=by
        show _=_
        rw [hv0.out];unfold openedB
        rw [hLens.out,List.getD_eq_getElem?_getD (l:=j.mi),List.getD_eq_getElem?_getD (l:=j.bare),hX.out,hY.out];rfl
      have hne:=run_neS X Y
      unfold Ltr.agg at hne
      clear x0 x1 x2 x3 x4 x5 y0 y1 y2 y3 y4 y5 z0 z1 z2 hl1 hl2 hl3 hl4 hl5
      go_upto_region 8 with fail
      cases hr:X.eqB Y
      · have Hv:Hid (v=false):=by show _=_;rw [Hv1.out,hr];rfl
        rw [hr] at hne
        clear hr Hv1
        obtain ⟨p0,p1,p2,p3,p4,p5,p6,p7,p8,p9,p10,p11,p12,p13,p14,p15,p16⟩:=KS.out w4 (bRefl _)
        go_quiet (fail)
        go_wp2_with fail
        go_ret
        exact ⟨ret_bool Hv.out.symm,by first | exact bDrN h4 _ | exact bDr h4⟩
      rw [hr] at hne
      have Hr:=Lib.hid hr
      clear hr
      by_cases t1:s.at_=(k:Int)
      case neg =>
        have Hv:Hid (v=false):=by show _=_;rw [Hv1.out,Hr.out,decide_eq_false t1];simp
        have f1:(s.at_ != (k:Int))=true:=by rw [bne_iff_ne];exact t1
        clear t1
        obtain ⟨p0,p1,p2,p3,p4,p5,p6,p7,p8,p9,p10,p11,p12,p13,p14,p15,p16⟩:=KS.out w4 (bRefl _)
        go_quiet (fail)
        go_wp2_with fail
        go_ret
        exact ⟨ret_bool Hv.out.symm,by first | exact bDrN h4 _ | exact bDr h4⟩
      have f1:(s.at_ != (k:Int))=false:=by rw [bne_eq_false_iff_eq];exact t1
      have T1:=Lib.hid t1
      clear t1
      by_cases t2:s.left.at_=(k:Int)
      case neg =>
        have Hv:Hid (v=false):=by show _=_;rw [Hv1.out,Hr.out,decide_eq_false t2];simp
        have f2:(s.left.at_ != (k:Int))=true:=by rw [bne_iff_ne];exact t2
        clear t2
        obtain ⟨p0,p1,p2,p3,p4,p5,p6,p7,p8,p9,p10,p11,p12,p13,p14,p15,p16⟩:=KS.out w4 (bRefl _)
        go_quiet (fail)
        go_wp2_with fail
        go_ret
        exact ⟨ret_bool Hv.out.symm,by first | exact bDrN h4 _ | exact bDr h4⟩
      have f2:(s.left.at_ != (k:Int))=false:=by rw [bne_eq_false_iff_eq];exact t2
      have T2:=Lib.hid t2
      clear t2
      by_cases t3:0≤s.mid
      case neg =>
        have Hv:Hid (v=false):=by show _=_;rw [Hv1.out,Hr.out,decide_eq_false t3];simp
        have f3:decide (s.mid<0)=true:=by rw [decide_eq_true_eq];omega
        clear t3
        obtain ⟨p0,p1,p2,p3,p4,p5,p6,p7,p8,p9,p10,p11,p12,p13,p14,p15,p16⟩:=KS.out w4 (bRefl _)
        go_quiet (fail)
        go_wp2_with fail
        go_ret
        exact ⟨ret_bool Hv.out.symm,by first | exact bDrN h4 _ | exact bDr h4⟩
      have f3:decide (s.mid<0)=false:=by rw [decide_eq_false_iff_not];omega
      have T3:=Lib.hid t3
      clear t3
      by_cases t4:s.mid<(inn.length:Int)
      case neg =>
        have Hv:Hid (v=false):=by show _=_;rw [Hv1.out,Hr.out,decide_eq_false t4];simp
        have f4:decide ((inn.length:Int)≤s.mid)=true:=by rw [decide_eq_true_eq];omega
        clear t4
        obtain ⟨p0,p1,p2,p3,p4,p5,p6,p7,p8,p9,p10,p11,p12,p13,p14,p15,p16⟩:=KS.out w4 (bRefl _)
        go_quiet (fail)
        go_wp2_with fail
        go_ret
        exact ⟨ret_bool Hv.out.symm,by first | exact bDrN h4 _ | exact bDr h4⟩
      have f4:decide ((inn.length:Int)≤s.mid)=false:=by rw [decide_eq_false_iff_not];omega
      have T4:=Lib.hid t4
      clear t4
      by_cases t5:0≤s.right.at_
      case neg =>
        have Hv:Hid (v=false):=by show _=_;rw [Hv1.out,Hr.out,decide_eq_false t5];simp
        have f5:decide (s.right.at_<0)=true:=by rw [decide_eq_true_eq];omega
        clear t5
        obtain ⟨p0,p1,p2,p3,p4,p5,p6,p7,p8,p9,p10,p11,p12,p13,p14,p15,p16⟩:=KS.out w4 (bRefl _)
        go_quiet (fail)
        go_wp2_with fail
        go_ret
        exact ⟨ret_bool Hv.out.symm,by first | exact bDrN h4 _ | exact bDr h4⟩
      have f5:decide (s.right.at_<0)=false:=by rw [decide_eq_false_iff_not];omega
      have T5:=Lib.hid t5
      clear t5
      by_cases t6:s.right.at_<(inn.length:Int)
      case neg =>
        have Hv:Hid (v=false):=by show _=_;rw [Hv1.out,Hr.out,decide_eq_false t6];simp
        have f6:decide ((inn.length:Int)≤s.right.at_)=true:=by rw [decide_eq_true_eq];omega
        clear t6
        obtain ⟨p0,p1,p2,p3,p4,p5,p6,p7,p8,p9,p10,p11,p12,p13,p14,p15,p16⟩:=KS.out w4 (bRefl _)
        go_quiet (fail)
        go_wp2_with fail
        go_ret
        exact ⟨ret_bool Hv.out.symm,by first | exact bDrN h4 _ | exact bDr h4⟩
      have f6:decide ((inn.length:Int)≤s.right.at_)=false:=by rw [decide_eq_false_iff_not];omega
      have T6:=Lib.hid t6
      clear t6
      obtain ⟨p0,p1,p2,p3,p4,p5,p6,p7,p8,p9,p10,p11,p12,p13,p14,p15,p16⟩:=KS.out w4 (bRefl _)
      go_quiet (fail)
      go_upto_region 10 with fail
      obtain ⟨hl1,hl2,hl3,hl4,hl5⟩:=hq.out
      have h5:=bDrN h4 nq
      have E9:Blk (w4.drewN nq) W.heap.size 91 cs:=E8
      have S9:Blk (w4.drewN nq) (W.heap.size+1) 97 s.cl.toArray:=S8
      have D9:Blk (w4.drewN nq) g7 53 #[.slice (some ⟨b2,off2,none⟩) j.mi.length c2,.slice A3 j.mm.length c3,.slice A4 j.mo.length c4,.slice A5 j.ml.length c5,.slice A6 j.mr.length c6]:=D8
      clear p0 p1 p2 p3 p4 p5 p6 p7 p8 p9 p10 p11 p12 p13 p14 p15 p16 f1 f2 f3 f4 f5 f6 hne
      obtain ⟨-,-,p2,p3,p4,p5,p6,p7,-,-,-,-,-,-,-,-,p16⟩:=KS.out (w4.drewN nq) (bDrN (bRefl _) _)
      clear KS BL y0 y1 y2 y3 y4 h3 H3 E8 S8 D8 h4 hz hv0 i0 i1 i2 hb3 hA1 hbb1
      generalize w4.drewN nq=w5 at *
      have t3:=T3.out
      have t4:=T4.out
      have t5:=T5.out
      have t6:=T6.out
      obtain ⟨m,hm⟩:∃ m,m=s.mid.toNat:=⟨_,rfl⟩
      obtain ⟨n,hn⟩:∃ n,n=s.right.at_.toNat:=⟨_,rfl⟩
      obtain ⟨D1,hD1⟩:∃ D,Hid (j.ml[s.mid.toNat]?=some D):=⟨_,Lib.hid (List.getElem?_eq_getElem (by omega))⟩
      obtain ⟨M1,hM1⟩:∃ X,Hid (j.mm[s.mid.toNat]?=some X):=⟨_,Lib.hid (List.getElem?_eq_getElem (by omega))⟩
      obtain ⟨D2,hD2⟩:∃ D,Hid (j.mr[s.mid.toNat]?=some D):=⟨_,Lib.hid (List.getElem?_eq_getElem (by omega))⟩
      obtain ⟨O1,hO1⟩:∃ X,Hid (j.mo[s.right.at_.toNat]?=some X):=⟨_,Lib.hid (List.getElem?_eq_getElem (by omega))⟩
      obtain ⟨b3,off3,rfl,hbb3,m0,m1,m2,m3,m4,m5⟩:=Ltr_at (hA3.below h5) (show s.mid.toNat<j.mm.length by omega) hM1.out
      obtain ⟨b4,off4,rfl,hbb4,o0,o1,o2,o3,o4,o5⟩:=Ltr_at (hA4.below h5) (show s.right.at_.toNat<j.mo.length by omega) hO1.out
      obtain ⟨b5,off5,rfl,hbb5,dl1,dk1,dc1⟩:=dig_at (hA5.below h5) hA5o (show s.mid.toNat<j.ml.length by omega) hD1.out
      obtain ⟨b6,off6,rfl,hbb6,dl2,dk2,dc2⟩:=dig_at (hA6.below h5) hA6o (show s.mid.toNat<j.mr.length by omega) hD2.out
      have hz:=h5.size
      have hg8:=D9.lt
      have L1:=load_digL dl1 (show b5<w5.heap.size by omega) dc1
      have L2:=load_digL dl2 (show b6<w5.heap.size by omega) dc2
      have L3:=load_opnL (w:=w5) (g:=W.heap.size+1) (o:=1) hs.2.1 S9.lt (fun j hj=>by rw [S9.cell,List.getElem?_toArray];exact s1 j hj)
      have L4:=load_opnL (w:=w5) (g:=W.heap.size+1) (o:=37) hs.2.2.1 S9.lt (fun j hj=>by rw [S9.cell,List.getElem?_toArray];exact s37 j hj)
      obtain ⟨u1,hu1⟩:∃ u,u=commitsB D1 ⟨#[108,101,102,116]⟩ s.left:=⟨_,rfl⟩
      obtain ⟨u2,hu2⟩:∃ u,u=leadsB rest X M1 s.left.r0 s.left.r1 s.left.r2:=⟨_,rfl⟩
      obtain ⟨u3,hu3⟩:∃ u,u=commitsB D2 ⟨#[114,105,103,104,116]⟩ s.right:=⟨_,rfl⟩
      obtain ⟨u4,hu4⟩:∃ u,u=leadsB rest M1 O1 s.right.r0 s.right.r1 s.right.r2:=⟨_,rfl⟩
      have q1:=Lib.hid (fun x:Later=>later_ret (pa_commits D1 ⟨#[108,101,102,116]⟩ s.left (later w5 x) dl1 hs.2.1 (by decide) (hG.below (bCall h5 (later_below w5 x)))))
      have q2:=Lib.hid (fun x:Later=>later_ret (pa_leads rest X M1 s.left.r0 s.left.r1 s.left.r2 (later w5 x)))
      have q3:=Lib.hid (fun x:Later=>later_ret (pa_commits D2 ⟨#[114,105,103,104,116]⟩ s.right (later w5 x) dl2 hs.2.2.1 (by decide) (hG.below (bCall h5 (later_below w5 x)))))
      have q4:=Lib.hid (fun x:Later=>later_ret (pa_leads rest M1 O1 s.right.r0 s.right.r1 s.right.r2 (later w5 x)))
      have Hv2:Hid (v=(u1&&(u2&&(u3&&u4)))):=by
        show _=_
        rw [Hv1.out,Hr.out,decide_eq_true T1.out,decide_eq_true T2.out,decide_eq_true T3.out,decide_eq_true T4.out,decide_eq_true T5.out,decide_eq_true T6.out,hu1,hu2,hu3,hu4,
          List.getD_eq_getElem?_getD,List.getD_eq_getElem?_getD,List.getD_eq_getElem?_getD,List.getD_eq_getElem?_getD,List.getD_eq_getElem?_getD,hX.out,hD1.out,hD2.out,hM1.out,hO1.out];rfl
      rw [←hu1] at q1
      rw [←hu2] at q2
      rw [←hu3] at q3
      rw [←hu4] at q4
      unfold Ltr.agg at q2 q4
      have x0:=(E9.cell 2).trans hrest
      have d0:w5.cell? ⟨g7,0,none⟩=some (.slice (some ⟨b2,off2,none⟩) j.mi.length c2):=D9.cell 0
      have d1:w5.cell? ⟨g7,1,none⟩=some (.slice (some ⟨b3,off3,none⟩) j.mm.length c3):=D9.cell 1
      have d2:w5.cell? ⟨g7,2,none⟩=some (.slice (some ⟨b4,off4,none⟩) j.mo.length c4):=D9.cell 2
      have d3:w5.cell? ⟨g7,3,none⟩=some (.slice (some ⟨b5,off5,none⟩) j.ml.length c5):=D9.cell 3
      have d4:w5.cell? ⟨g7,4,none⟩=some (.slice (some ⟨b6,off6,none⟩) j.mr.length c6):=D9.cell 4
      have r0:w5.cell? ⟨W.heap.size+1,2,none⟩=some (.int .i64 s.left.r0):=(S9.cell 2).trans (by rw [List.getElem?_toArray];exact s1 1 (by omega))
      have r1:w5.cell? ⟨W.heap.size+1,3,none⟩=some (.int .i64 s.left.r1):=(S9.cell 3).trans (by rw [List.getElem?_toArray];exact s1 2 (by omega))
      have r2:w5.cell? ⟨W.heap.size+1,4,none⟩=some (.int .i64 s.left.r2):=(S9.cell 4).trans (by rw [List.getElem?_toArray];exact s1 3 (by omega))
      have r3:w5.cell? ⟨W.heap.size+1,38,none⟩=some (.int .i64 s.right.r0):=(S9.cell 38).trans (by rw [List.getElem?_toArray];exact s37 1 (by omega))
      have r4:w5.cell? ⟨W.heap.size+1,39,none⟩=some (.int .i64 s.right.r1):=(S9.cell 39).trans (by rw [List.getElem?_toArray];exact s37 2 (by omega))
      have r5:w5.cell? ⟨W.heap.size+1,40,none⟩=some (.int .i64 s.right.r2):=(S9.cell 40).trans (by rw [List.getElem?_toArray];exact s37 3 (by omega))
      have e1:(k:Int)<(j.mi.length:Int):=by omega
      have e2:s.mid<(j.mm.length:Int):=by omega
      have e3:s.mid<(j.ml.length:Int):=by omega
      have e4:s.mid<(j.mr.length:Int):=by omega
      have e5:s.right.at_<(j.mo.length:Int):=by omega
      have e6:(0:Int)≤(k:Int):=by omega
      have z1:W.heap.size<w5.heap.size:=by omega
      have z2:W.heap.size+1<w5.heap.size:=by omega
      have z3:b2<w5.heap.size:=by omega
      have z4:b3<w5.heap.size:=by omega
      have z5:b4<w5.heap.size:=by omega
      clear hu1 hu2 hu3 hu4 Hv1 Hr T1 T2 T3 T4 T5 T6 hq hLens hX hY hD1 hM1 hD2 hO1 dc1 dc2 dl1 dl2 dk1 dk2 E9 S9 D9 s0 s1 s37 s73 hA2 hA3 hA4 hA5 hA6 hA5o hA6o hA hrest hm hn m n h hs
      have H5:=Lib.hid h5
      clear h5 hG hz hl1 hl2 hl3 hl4 hl5 hbb2 hbb3 hbb4 hbb5 hbb6
      cases u1
      · refine wp_region_later_lit w5 (bRefl _) (by kernel_rfl) (by kernel_rfl) ?_
        repeat (first | go_big_quiet_skip | (go_big_quiet_want;first | ((first | (with_reducible refine quiet_loadL L1 rfl rfl ?_) | (with_reducible refine quiet_loadL L3 rfl rfl ?_));simp only [Act.put,List.setIfInBounds_toArray,List.set_cons_zero,List.set_cons_succ];go_big_quiet_on) | (go_big_quiet_op;first | go_big_quiet_on | go_big_quiet_call (first | (go_at_call 120;exact q1.out _)))))
        refine wpQuiet_nil ?_
        rintro _ ⟨z,rfl⟩
        go_wp2_with fail
        go_ret
        exact ⟨ret_bool Hv2.out.symm,bCall H5.out (later_below _ z)⟩
      cases u2
      · refine wp_region_later_lit w5 (bRefl _) (by kernel_rfl) (by kernel_rfl) ?_
        repeat (first | go_big_quiet_skip | (go_big_quiet_want;first | ((first | (with_reducible refine quiet_loadL L1 rfl rfl ?_) | (with_reducible refine quiet_loadL L3 rfl rfl ?_));simp only [Act.put,List.setIfInBounds_toArray,List.set_cons_zero,List.set_cons_succ];go_big_quiet_on) | (go_big_quiet_op;first | go_big_quiet_on | go_big_quiet_call (first | (go_at_call 120;exact q1.out _) | (go_at_call 121;exact q2.out _)))))
        refine wpQuiet_nil ?_
        rintro _ ⟨z,rfl⟩
        go_wp2_with fail
        go_ret
        exact ⟨ret_bool Hv2.out.symm,bCall H5.out (later_below _ z)⟩
      cases u3
      · refine wp_region_later_lit w5 (bRefl _) (by kernel_rfl) (by kernel_rfl) ?_
        repeat (first | go_big_quiet_skip | (go_big_quiet_want;first | ((first | (with_reducible refine quiet_loadL L1 rfl rfl ?_) | (with_reducible refine quiet_loadL L3 rfl rfl ?_) | (with_reducible refine quiet_loadL L2 rfl rfl ?_) | (with_reducible refine quiet_loadL L4 rfl rfl ?_));simp only [Act.put,List.setIfInBounds_toArray,List.set_cons_zero,List.set_cons_succ];go_big_quiet_on) | (go_big_quiet_op;first | go_big_quiet_on | go_big_quiet_call (first | (go_at_call 120;first | with_reducible exact q1.out _ | exact q3.out _) | (go_at_call 121;exact q2.out _)))))
        refine wpQuiet_nil ?_
        rintro _ ⟨z,rfl⟩
        go_wp2_with fail
        go_ret
        exact ⟨ret_bool Hv2.out.symm,bCall H5.out (later_below _ z)⟩
      · refine wp_region_later_lit w5 (bRefl _) (by kernel_rfl) (by kernel_rfl) ?_
        repeat (first | go_big_quiet_skip | (go_big_quiet_want;first | ((first | (with_reducible refine quiet_loadL L1 rfl rfl ?_) | (with_reducible refine quiet_loadL L3 rfl rfl ?_) | (with_reducible refine quiet_loadL L2 rfl rfl ?_) | (with_reducible refine quiet_loadL L4 rfl rfl ?_));simp only [Act.put,List.setIfInBounds_toArray,List.set_cons_zero,List.set_cons_succ];go_big_quiet_on) | (go_big_quiet_op;first | go_big_quiet_on | go_big_quiet_call (first | (go_at_call 120;first | with_reducible exact q1.out _ | exact q3.out _) | (go_at_call 121;first | with_reducible exact q2.out _ | exact q4.out _)))))
        refine wpQuiet_nil ?_
        rintro _ ⟨z,rfl⟩
        go_wp2_with fail
        go_ret
        exact ⟨ret_bool Hv2.out.symm,bCall H5.out (later_below _ z)⟩
end Go.Proofs.YtgkpomdegomgiaaGreatDoor
namespace Go.Proofs.YtgkpomdegomgiaaGreatDoor
open Go Go.RowKit
def KeepsC (K:Nat→Prop) (A B:World):Prop:=A.heap.size≤B.heap.size∧∀ k t cs fr,K k→A.heap[k]?=some (.cells cs t fr)→B.heap[k]?=A.heap[k]?
theorem KeepsC.refl (K:Nat→Prop) (A:World):KeepsC K A A:=⟨Nat.le_refl _,fun _ _ _ _ _ _=>rfl⟩
theorem KeepsC.trans {K:Nat→Prop} {A B C:World} (h:KeepsC K A B) (k:KeepsC K B C):KeepsC K A C :=
  ⟨Nat.le_trans h.1 k.1,fun i t cs fr hi hc=>by
    have e:=h.2 i t cs fr hi hc
    exact (k.2 i t cs fr hi (e.trans hc)).trans e⟩
theorem KeepsC.put {K:Nat→Prop} (W:World) (l:Nat) (o o':Obj) (hl:W.heap[l]?=some o) (ho:o.isCells=false):KeepsC K W (W.putObj l o') :=
  ⟨by simp,fun k t cs fr _ hc=>by
    refine World.putObj_heap_other ?_
    intro e;subst e;rw [hl] at hc;cases hc;cases ho⟩
theorem KeepsC.below {K:Nat→Prop} {A B:World} (h:Below A.heap.size A B):KeepsC K A B :=
  ⟨h.size,fun k _ _ _ _ hc=>h.block k (Array.getElem?_eq_some_iff.1 hc).1⟩
theorem KeepsC.set_ {K:Nat→Prop} {A B:World} (h:KeepsC K A B) {p:Addr} (hp:¬K p.block) (v:Value):KeepsC K A (B.setCell p v) :=
  ⟨Nat.le_trans h.1 (by simp [World.setCell]),fun k t cs fr hk hc=>(Below.heap_setCell _ _ _ _ (by intro e;exact hp (e▸hk))).trans (h.2 k t cs fr hk hc)⟩
theorem KeepsC.blk {K:Nat→Prop} {A B:World} {g:Nat} {t:TypeId} {cs:Array Value} (h:KeepsC K A B) (hg:K g) (b:Blk A g t cs):Blk B g t cs:=(h.2 g _ _ _ hg b).trans b
theorem KeepsC.cell {K:Nat→Prop} {A B:World} (h:KeepsC K A B) {p:Addr} (hp:K p.block) {v:Value} (hv:A.cell? p=some v):B.cell? p=some v:=by
  have hh:∃ t cs fr,A.heap[p.block]?=some (.cells cs t fr):=by
    unfold World.cell? at hv
    cases ho:A.heap[p.block]? with
    | none=>rw [ho] at hv;simp at hv
    | some o =>
      cases o with
      | cells cs t fr=>exact ⟨_,_,_,rfl⟩
      | _=>rw [ho] at hv;simp at hv
  obtain ⟨t,cs,fr,hc⟩:=hh
  have e:=h.2 _ _ _ _ hp hc
  unfold World.cell? at hv ⊢
  rw [e];exact hv
theorem KeepsC.rd {K:Nat→Prop} {A B:World} {B0 sz n:Nat} {S:Option Addr} {xs:List Value} (h:KeepsC K A B) (hB:∀ k,k<B0→K k) (r:Rd A B0 sz S n xs):Rd B B0 sz S n xs :=
  ⟨r.1,fun hn=>by
    obtain ⟨b,off,e,hb,hc⟩:=r.2 hn
    exact ⟨b,off,e,hb,fun j u hu=>h.cell (p:=⟨b,off+j,none⟩) (hB _ hb) (hc j u hu)⟩⟩
def RoundC {α:Type} (K:Nat→Prop) (base:World) (bl:List α→List (Nat×TypeId×Array Value)) (R:List α→Prop) (bx:Code→List α→List (Nat×TypeId×Array Value)) (Rx:Code→List α→Prop) (xs:List α) (W:World):Exit→Act→World→Prop
  | .normal,_,W'=>KeepsOthers W W'∧KeepsC K W W'∧Below base.heap.size base W'∧Blks W' (bl xs)∧R xs
  | .ret,_,W'=>KeepsOthers W W'∧Below base.heap.size base W'∧Blks W' (bx .ret xs)∧Rx .ret xs
  | .exit id,_,W'=>KeepsOthers W W'∧Below base.heap.size base W'∧Blks W' (bx (.exit id) xs)∧Rx (.exit id) xs
  | .goto t,_,W'=>KeepsOthers W W'∧Below base.heap.size base W'∧Blks W' (bx (.goto t) xs)∧Rx (.goto t) xs
  | .panic _,_,_=>False
  | .outgrown,_,_=>False
theorem wp_rangeC {P:Program} {α:Type} {g:Operand} {ps:Array Tmp} {assign body:Code} {Q:Exit→Act→World→Prop} {a:Act} {w:World} (n:Nat)
    {gf:Nat} {lb:Array Value} (hg:a.eval g = .func (.func gf) #[] lb) (eg:∀ args w,(callFunc gf args).run P w = .ok (.enter gf args) w)
    {encs:α→Array Value} {S Sp:List α→Prop} {N:Nat} (K:Nat→Prop) (hseq:SeqT (fun _=>False) (n+1) P gf lb encs (KeepsC K) S Sp N w) (hps:∀ x,(encs x).size=ps.size)
    (base:World) (hb:Below base.heap.size base w) (bl:List α→List (Nat×TypeId×Array Value)) (R:List α→Prop) (bx:Code→List α→List (Nat×TypeId×Array Value)) (Rx:Code→List α→Prop)
    (h0:Blks w (bl [])) (hR0:R [])
    (hround:∀ (l:Nat) (pre:List α) (x:α) (W:World),pre.length<N→Below base.heap.size base W→Blks W (bl pre)→R pre →
      assign.wpIn (Fence.wide.inRound l) n P (Exit.then (fun a₁ W₁=>∃ nb:List (Nat×TypeId×Array Value),KeepsOthers W W₁∧KeepsC K W W₁∧Below base.heap.size base W₁∧Blks W₁ (nb++bl pre) ∧
        ∀ (L:Nat) (W2:World),Below base.heap.size base W2→Blks W2 (nb++bl pre)→body.wpIn (Fence.wide.inRound L) n P (RoundC K base bl R bx Rx (pre++[x]) W2) a₁ W2) (fun _ _ _=>False)) { tmps:=(ps.zip (encs x)).foldl (fun t (p,v)=>t.setIfInBounds p v) a.tmps,defers:=[] } W)
    (hdone:∀ (D:Nat) (xs:List α) (W:World),base.heap.size≤D→S xs→Below base.heap.size base W→Blks W (bl xs)→R xs→W.heap[D]?=some (.deferred (some []))→Q .normal { a with defers:={ target := .collected D,args:=#[] }::a.defers } W)
    (hstop:∀ (D:Nat) (c:Code) (pre:List α) (W:World),base.heap.size≤D→Sp pre→Below base.heap.size base W→Blks W (bx c pre)→Rx c pre→W.heap[D]?=some (.deferred (some []))→c.wp P Q { a with defers:={ target := .collected D,args:=#[] }::a.defers } W) :
    (Code.rangeFunc g ps assign body).wp P Q a w:=by
  refine wp_rangeFuncT n hg eg (S:=S) (Sp:=Sp) (N:=N) (w0:=w) (T:=fun _=>False) hseq (fun _ h=>h.elim) KeepsC.trans (fun W l o o' _ hl ho _=>KeepsC.put W l o o' hl ho) (bRefl _) hps
    (fun pre W'=>Below base.heap.size base W'∧Blks W' (bl pre)∧R pre)
    (fun x a₁ pre W'=>∃ nb:List (Nat×TypeId×Array Value),Below base.heap.size base W'∧Blks W' (nb++bl pre) ∧
      ∀ (L:Nat) (W2:World),Below base.heap.size base W2→Blks W2 (nb++bl pre)→body.wpIn (Fence.wide.inRound L) n P (RoundC K base bl R bx Rx (pre++[x]) W2) a₁ W2)
    (fun c pre W'=>Below base.heap.size base W'∧Blks W' (bx c pre)∧Rx c pre)
    (fun pre A' B' row h hg hr=>⟨bGrown h.1 hg hb.size hr,Blks.kept hg hr h.2.1,h.2.2⟩)
    (fun x a pre A' B' row h hg hr=>by
      obtain ⟨nb,h1,h2,h3⟩:=h
      exact ⟨nb,bGrown h1 hg hb.size hr,Blks.kept hg hr h2,h3⟩)
    (fun c pre A' B' row h hg hr=>⟨bGrown h.1 hg hb.size hr,Blks.kept hg hr h.2.1,h.2.2⟩)
    (fun _ _ _ _ _ ht=>ht.elim)
    (fun _ _ _ _ _ _ ht=>ht.elim)
    ⟨hb,h0,hR0⟩ ?_ ?_ ?_ ?_
  · intro l pre x W hI hlen
    refine Go.wpIn_mono (hround l pre x W hlen hI.1 hI.2.1 hI.2.2) ?_
    intro e a' w' hp
    cases e with
    | normal =>
      obtain ⟨nb,h1,h2,h3,h4,h5⟩:=hp
      exact ⟨h1,h2,nb,h3,h4,h5⟩
    | _=>exact hp
  · intro l pre x a₁ W hI hlen
    obtain ⟨nb,h1,h2,h3⟩:=hI
    refine Go.wpIn_mono (h3 l W h1 h2) ?_
    intro e a' w' hp
    cases e with
    | normal=>exact ⟨hp.1,hp.2.1,hp.2.2.1,hp.2.2.2.1,hp.2.2.2.2⟩
    | ret=>exact ⟨hp.1,hp.2.1,hp.2.2.1,hp.2.2.2⟩
    | exit id=>exact ⟨hp.1,hp.2.1,hp.2.2.1,hp.2.2.2⟩
    | goto t=>exact ⟨hp.1,hp.2.1,hp.2.2.1,hp.2.2.2⟩
    | panic ch=>exact hp.elim
    | outgrown=>exact hp.elim
  · intro D xs W hD hS hI hd
    exact hdone D xs W (Nat.le_trans hb.size hD) hS hI.1 hI.2.1 hI.2.2 hd
  · intro D c pre W hD hS hI hd
    exact hstop D c pre W (Nat.le_trans hb.size hD) hS hI.1 hI.2.1 hI.2.2 hd
theorem wp_rangeCM {P:Program} {α:Type} {g:Operand} {ps:Array Tmp} {assign body:Code} {Q:Exit→Act→World→Prop} {a:Act} {w:World} (n:Nat)
    {gf:Nat} {lb:Array Value} (hg:a.eval g = .func (.func gf) #[] lb) (eg:∀ args w,(callFunc gf args).run P w = .ok (.enter gf args) w)
    {encs:α→Array Value} {S Sp:List α→Prop} {N:Nat} (K:Nat→Prop) (hseq:SeqT (fun _=>False) (n+1) P gf lb encs (KeepsC K) S Sp N w) (hps:∀ x,(encs x).size=ps.size)
    (base:World) (hb:Below base.heap.size base w) (bl:List α→List (Nat×TypeId×Array Value)) (R:List α→Prop) (bx:Code→List α→List (Nat×TypeId×Array Value)) (Rx:Code→List α→Prop)
    (D0:Nat) (o0:Obj) (hm0:w.heap[D0]?=some o0) (hc0:o0.isCells=false)
    (h0:Blks w (bl [])) (hR0:R [])
    (hround:∀ (l:Nat) (pre:List α) (x:α) (W:World),pre.length<N→Below base.heap.size base W→Blks W (bl pre)→R pre →
      assign.wpIn (Fence.wide.inRound l) n P (Exit.then (fun a₁ W₁=>∃ nb:List (Nat×TypeId×Array Value),KeepsOthers W W₁∧KeepsC K W W₁∧Below base.heap.size base W₁∧Blks W₁ (nb++bl pre) ∧
        ∀ (L:Nat) (W2:World),Below base.heap.size base W2→Blks W2 (nb++bl pre)→body.wpIn (Fence.wide.inRound L) n P (RoundC K base bl R bx Rx (pre++[x]) W2) a₁ W2) (fun _ _ _=>False)) { tmps:=(ps.zip (encs x)).foldl (fun t (p,v)=>t.setIfInBounds p v) a.tmps,defers:=[] } W)
    (hdone:∀ (D:Nat) (xs:List α) (W:World),base.heap.size≤D→S xs→Below base.heap.size base W→Blks W (bl xs)→R xs→W.heap[D]?=some (.deferred (some []))→W.heap[D0]?=some o0→D0<D→Q .normal { a with defers:={ target := .collected D,args:=#[] }::a.defers } W)
    (hstop:∀ (D:Nat) (c:Code) (pre:List α) (W:World),base.heap.size≤D→Sp pre→Below base.heap.size base W→Blks W (bx c pre)→Rx c pre→W.heap[D]?=some (.deferred (some []))→W.heap[D0]?=some o0→D0<D→c.wp P Q { a with defers:={ target := .collected D,args:=#[] }::a.defers } W) :
    (Code.rangeFunc g ps assign body).wp P Q a w:=by
  have hl0:D0<w.heap.size:=(Array.getElem?_eq_some_iff.1 hm0).1
  have hgm:∀ {A' B':World} {row:Option Nat},A'.heap[D0]?=some o0→A'.grownBy B' row→(∀ r,row=some r→w.heap.size≤r∧∃ o:Obj,A'.heap[r]?=some o∧o.isCells=false)→B'.heap[D0]?=some o0:=fun hm hg hr =>
    (hg.block D0 (Array.getElem?_eq_some_iff.1 hm).1 (fun e=>by have:=(hr D0 e.symm).1;omega)).trans hm
  refine wp_rangeFuncT n hg eg (S:=S) (Sp:=Sp) (N:=N) (w0:=w) (T:=fun _=>False) hseq (fun _ h=>h.elim) KeepsC.trans (fun W l o o' _ hl ho _=>KeepsC.put W l o o' hl ho) (bRefl _) hps
    (fun pre W'=>(Below base.heap.size base W'∧Blks W' (bl pre)∧R pre)∧W'.heap[D0]?=some o0)
    (fun x a₁ pre W'=>(∃ nb:List (Nat×TypeId×Array Value),Below base.heap.size base W'∧Blks W' (nb++bl pre) ∧
      ∀ (L:Nat) (W2:World),Below base.heap.size base W2→Blks W2 (nb++bl pre)→body.wpIn (Fence.wide.inRound L) n P (RoundC K base bl R bx Rx (pre++[x]) W2) a₁ W2)∧W'.heap[D0]?=some o0)
    (fun c pre W'=>(Below base.heap.size base W'∧Blks W' (bx c pre)∧Rx c pre)∧W'.heap[D0]?=some o0)
    (fun pre A' B' row h hg hr=>⟨⟨bGrown h.1.1 hg hb.size hr,Blks.kept hg hr h.1.2.1,h.1.2.2⟩,hgm h.2 hg hr⟩)
    (fun x a pre A' B' row h hg hr=>by
      obtain ⟨⟨nb,h1,h2,h3⟩,h4⟩:=h
      exact ⟨⟨nb,bGrown h1 hg hb.size hr,Blks.kept hg hr h2,h3⟩,hgm h4 hg hr⟩)
    (fun c pre A' B' row h hg hr=>⟨⟨bGrown h.1.1 hg hb.size hr,Blks.kept hg hr h.1.2.1,h.1.2.2⟩,hgm h.2 hg hr⟩)
    (fun _ _ _ _ _ ht=>ht.elim)
    (fun _ _ _ _ _ _ ht=>ht.elim)
    ⟨⟨hb,h0,hR0⟩,hm0⟩ ?_ ?_ ?_ ?_
  · intro l pre x W hI hlen
    refine Go.wpIn_mono (hround l pre x W hlen hI.1.1 hI.1.2.1 hI.1.2.2) ?_
    intro e a' w' hp
    cases e with
    | normal =>
      obtain ⟨nb,h1,h2,h3,h4,h5⟩:=hp
      exact ⟨h1,h2,⟨nb,h3,h4,h5⟩,h1.same _ _ hI.2 hc0⟩
    | _=>exact hp
  · intro l pre x a₁ W hI hlen
    obtain ⟨⟨nb,h1,h2,h3⟩,h4⟩:=hI
    refine Go.wpIn_mono (h3 l W h1 h2) ?_
    intro e a' w' hp
    cases e with
    | normal=>exact ⟨hp.1,hp.2.1,⟨hp.2.2.1,hp.2.2.2.1,hp.2.2.2.2⟩,hp.1.same _ _ h4 hc0⟩
    | ret=>exact ⟨hp.1,⟨hp.2.1,hp.2.2.1,hp.2.2.2⟩,hp.1.same _ _ h4 hc0⟩
    | exit id=>exact ⟨hp.1,⟨hp.2.1,hp.2.2.1,hp.2.2.2⟩,hp.1.same _ _ h4 hc0⟩
    | goto t=>exact ⟨hp.1,⟨hp.2.1,hp.2.2.1,hp.2.2.2⟩,hp.1.same _ _ h4 hc0⟩
    | panic ch=>exact hp.elim
    | outgrown=>exact hp.elim
  · intro D xs W hD hS hI hd
    exact hdone D xs W (Nat.le_trans hb.size hD) hS hI.1.1 hI.1.2.1 hI.1.2.2 hd hI.2 (by omega)
  · intro D c pre W hD hS hI hd
    exact hstop D c pre W (Nat.le_trans hb.size hD) hS hI.1.1 hI.1.2.1 hI.1.2.2 hd hI.2 (by omega)
end Go.Proofs.YtgkpomdegomgiaaGreatDoor

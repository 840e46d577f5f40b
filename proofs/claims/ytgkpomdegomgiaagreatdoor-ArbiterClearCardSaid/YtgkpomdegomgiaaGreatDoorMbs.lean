/- The reference's Opened, walked. -/
import Derived.Test.YtgkpomdegomgiaaGreatDoorMbr
set_option maxRecDepth 1000000
set_option maxHeartbeats 16000000
namespace Go.Proofs.YtgkpomdegomgiaaGreatDoor
open Go.RowKit
theorem ref_fits1_out (key:Int) (j:Jb) (o:Opn) (m:Nat) (A2 A3 A4 A5 A6:Option Addr) (c2 c3 c4 c5 c6:Nat) (W:World) (hat:o.at_<0∨(j.mi.length:Int)≤o.at_) :
    Calls Tryz.prog 132 #[.int .i64 key,mixV A2 A3 A4 A5 A6 c2 c3 c4 c5 c6 j,.int .i64 (m:Nat),.int .i64 1,.agg o.cl.toArray] W (Ret (.bool false) W):=by
  unfold mixV
  have BM:=(Blk.new W 53 #[.slice A2 j.mi.length c2,.slice A3 j.mm.length c3,.slice A4 j.mo.length c4,.slice A5 j.ml.length c5,.slice A6 j.mr.length c6] _ rfl).alloc (.cells o.cl.toArray 95)
  have BO:=Blk.new (W.alloc (.cells #[.slice A2 j.mi.length c2,.slice A3 j.mm.length c3,.slice A4 j.mo.length c4,.slice A5 j.ml.length c5,.slice A6 j.mr.length c6] 53)) 95 o.cl.toArray (W.heap.size+1) (by simp)
  have hb:=bAl (bAl (bRefl W) (.cells #[.slice A2 j.mi.length c2,.slice A3 j.mm.length c3,.slice A4 j.mo.length c4,.slice A5 j.ml.length c5,.slice A6 j.mr.length c6] 53)) (.cells o.cl.toArray 95)
  go_enter Tryz.func132,Tryz.ntmps132
  go_upto_region 1 with fail
  generalize (W.alloc (.cells #[.slice A2 j.mi.length c2,.slice A3 j.mm.length c3,.slice A4 j.mo.length c4,.slice A5 j.ml.length c5,.slice A6 j.mr.length c6] 53)).alloc (.cells o.cl.toArray 95)=w1 at *
  have m0:w1.cell? ⟨W.heap.size,0,none⟩=some (.slice A2 j.mi.length c2):=BM.cell 0
  have o0:w1.cell? ⟨W.heap.size+1,0,none⟩=some (.int .i64 o.at_):=BO.cell 0
  generalize o.at_=z at *
  by_cases hz:z<0
  · clear hat
    go_wp2_with fail
    go_ret
    exact ⟨rfl,hb⟩
  · have hz2:(j.mi.length:Int)≤z:=by omega
    clear hat
    go_wp2_with fail
    go_ret
    exact ⟨rfl,hb⟩
def openedR (rest:Int) (n:Nat) (j:Jb) (s:Stp) (k:Nat):Bool :=
  lensB n j&&((j.mi.getD k zeroL).eqB (j.bare.getD k zeroL)&&(decide (s.at_=k)&&(decide (s.left.at_=k)&&(decide (0≤s.mid)&&(decide (s.mid<n) &&
    (fitsB rest (j.ml.getD s.mid.toNat []) ⟨#[108,101,102,116]⟩ (j.mi.getD k zeroL) (j.mm.getD s.mid.toNat zeroL) s.left &&
      (decide (0≤s.right.at_∧s.right.at_<n)&&fitsB rest (j.mr.getD s.mid.toNat []) ⟨#[114,105,103,104,116]⟩ (j.mm.getD s.mid.toNat zeroL) (j.mo.getD s.right.at_.toNat zeroL) s.right)))))))
theorem stp_loads {w:World} {b:Nat} {s:Stp} (hs:s.ok) (B:Blk w b 97 s.cl.toArray) :
    (Instr.loadAt 95 (.pointer (some ⟨b,1,none⟩))).run Tryz.prog w = .ok (.agg s.left.cl.toArray) w∧(Instr.loadAt 95 (.pointer (some ⟨b,37,none⟩))).run Tryz.prog w = .ok (.agg s.right.cl.toArray) w:=by
  obtain ⟨_,h1,h2,_⟩:=Stp.cells hs
  have l1:=Opn.cl_length' hs.2.1
  have l2:=Opn.cl_length' hs.2.2.1
  refine ⟨run_loadAt_mid _ b 1 95 s.left.cl _ (fun j v hj=>?_) Tryz.underlying95 rfl (by rw [l1];exact opn_info'),run_loadAt_mid _ b 37 95 s.right.cl _ (fun j v hj=>?_) Tryz.underlying95 rfl (by rw [l2];exact opn_info')⟩
  · have hj36:j<36:=by have:=(List.getElem?_eq_some_iff.1 hj).1;omega
    rw [B.cell,List.getElem?_toArray,h1 j hj36];exact hj
  · have hj36:j<36:=by have:=(List.getElem?_eq_some_iff.1 hj).1;omega
    rw [B.cell,List.getElem?_toArray,h2 j hj36];exact hj
theorem stp_cells {w:World} {b:Nat} {s:Stp} (hs:s.ok) (B:Blk w b 97 s.cl.toArray):w.cell? ⟨b,0,none⟩=some (.int .i64 s.at_)∧w.cell? ⟨b,1,none⟩=some (.int .i64 s.left.at_)∧w.cell? ⟨b,37,none⟩=some (.int .i64 s.right.at_)∧w.cell? ⟨b,73,none⟩=some (.int .i64 s.mid):=by
  obtain ⟨h0,h1,h2,h3⟩:=Stp.cells hs
  refine ⟨?_,?_,?_,?_⟩
  · rw [B.cell,List.getElem?_toArray];exact h0
  · rw [B.cell,List.getElem?_toArray];exact (h1 0 (by omega)).trans rfl
  · rw [B.cell,List.getElem?_toArray];exact (h2 0 (by omega)).trans rfl
  · rw [B.cell,List.getElem?_toArray];exact h3
theorem five {w:World} {b:Nat} {t:TypeId} {v0 v1 v2 v3 v4:Value} (h:Blk w b t #[v0,v1,v2,v3,v4]):w.cell? ⟨b,0,none⟩=some v0∧w.cell? ⟨b,1,none⟩=some v1∧w.cell? ⟨b,2,none⟩=some v2∧w.cell? ⟨b,3,none⟩=some v3∧w.cell? ⟨b,4,none⟩=some v4:=⟨h.cell 0,h.cell 1,h.cell 2,h.cell 3,h.cell 4⟩
theorem ref_opened (rest:Int) (jc:Array Value) (j:Jb) (s:Stp) (n k:Nat) (W:World) (hj:JobAt W W.heap.size (fun i=>jc[i]?) j) (hs:s.ok) (hk:k<n) (hbl:j.bare.length=n) :
    Calls Tryz.prog 99 #[.int .i64 rest,.agg jc,.agg s.cl.toArray,.int .i64 (n:Nat),.int .i64 (k:Nat)] W (Ret (.bool (openedR rest n j s k)) W):=by
  obtain ⟨v,hv⟩:∃ v,v=openedR rest n j s k:=⟨_,rfl⟩
  rw [←hv]
  unfold openedR lensB at hv
  obtain ⟨A1,c1,h0,r1,-⟩:=hj.h0
  obtain ⟨A2,c2,h2,r2,-⟩:=hj.h2
  obtain ⟨A3,c3,h3,r3,-⟩:=hj.h3
  obtain ⟨A4,c4,h4,r4,-⟩:=hj.h4
  obtain ⟨A5,c5,h5,r5,-,-,d5⟩:=hj.h5
  obtain ⟨A6,c6,h6,r6,-,-,d6⟩:=hj.h6
  have BJ:=(Blk.new W 55 jc _ rfl).alloc (.cells s.cl.toArray 97)
  have BS:=Blk.new (W.alloc (.cells jc 55)) 97 s.cl.toArray (W.heap.size+1) (by simp)
  have hb:=bAl (bAl (bRefl W) (.cells jc 55)) (.cells s.cl.toArray 97)
  go_enter Tryz.func99,Tryz.ntmps99
  go_upto_region 1 with fail
  generalize (W.alloc (.cells jc 55)).alloc (.cells s.cl.toArray 97)=w1 at *
  have y2:=(BJ.cell 2).trans h2
  have y3:=(BJ.cell 3).trans h3
  have y4:=(BJ.cell 4).trans h4
  have y5:=(BJ.cell 5).trans h5
  have y6:=(BJ.cell 6).trans h6
  have y0:=(BJ.cell 0).trans h0
  clear h0 h2 h3 h4 h5 h6 hj
  go_upto_region 2 with fail
  have BM:=Blk.new w1 53 #[.slice A2 j.mi.length c2,.slice A3 j.mm.length c3,.slice A4 j.mo.length c4,.slice A5 j.ml.length c5,.slice A6 j.mr.length c6] _ rfl
  have BJ2:=BJ.alloc (.cells #[.slice A2 j.mi.length c2,.slice A3 j.mm.length c3,.slice A4 j.mo.length c4,.slice A5 j.ml.length c5,.slice A6 j.mr.length c6] 53)
  have BS2:=BS.alloc (.cells #[.slice A2 j.mi.length c2,.slice A3 j.mm.length c3,.slice A4 j.mo.length c4,.slice A5 j.ml.length c5,.slice A6 j.mr.length c6] 53)
  have hb2:=bAl hb (.cells #[.slice A2 j.mi.length c2,.slice A3 j.mm.length c3,.slice A4 j.mo.length c4,.slice A5 j.ml.length c5,.slice A6 j.mr.length c6] 53)
  have y0':=((Blk.alloc BJ (.cells #[.slice A2 j.mi.length c2,.slice A3 j.mm.length c3,.slice A4 j.mo.length c4,.slice A5 j.ml.length c5,.slice A6 j.mr.length c6] 53)).cell 0).trans ((BJ.cell 0).symm.trans y0)
  have hgm:W.heap.size+1<w1.heap.size:=BS.lt
  clear BJ BS hb y0 y2 y3 y4 y5 y6
  generalize w1.alloc (.cells #[.slice A2 j.mi.length c2,.slice A3 j.mm.length c3,.slice A4 j.mo.length c4,.slice A5 j.ml.length c5,.slice A6 j.mr.length c6] 53)=w2 at *
  generalize w1.heap.size=gm at *
  obtain ⟨x0,x1,x2,x3,x4⟩:=five BM
  have e0:(0:Int)≤(k:Int):=by omega
  by_cases t1:j.mi.length=n
  case neg =>
    have Hv:Hid (v=false):=by show _=_;rw [hv,decide_eq_false t1];simp
    have g1:((j.mi.length:Int) != (n:Int))=true:=by rw [bne_iff_ne];omega
    clear hv t1
    go_quiet (fail)
    go_wp2_with fail
    go_ret
    exact ⟨ret_bool Hv.out.symm,bDrN hb2 nq⟩
  have g1:((j.mi.length:Int) != (n:Int))=false:=by rw [bne_eq_false_iff_eq];omega
  by_cases t2:j.mm.length=n
  case neg =>
    have Hv:Hid (v=false):=by show _=_;rw [hv,decide_eq_false t2];simp
    have g2:((j.mm.length:Int) != (n:Int))=true:=by rw [bne_iff_ne];omega
    clear hv t1 t2
    go_quiet (fail)
    go_wp2_with fail
    go_ret
    exact ⟨ret_bool Hv.out.symm,bDrN hb2 nq⟩
  have g2:((j.mm.length:Int) != (n:Int))=false:=by rw [bne_eq_false_iff_eq];omega
  by_cases t3:j.mo.length=n
  case neg =>
    have Hv:Hid (v=false):=by show _=_;rw [hv,decide_eq_false t3];simp
    have g3:((j.mo.length:Int) != (n:Int))=true:=by rw [bne_iff_ne];omega
    clear hv t1 t2 t3
    go_quiet (fail)
    go_wp2_with fail
    go_ret
    exact ⟨ret_bool Hv.out.symm,bDrN hb2 nq⟩
  have g3:((j.mo.length:Int) != (n:Int))=false:=by rw [bne_eq_false_iff_eq];omega
  by_cases t4:j.ml.length=n
  case neg =>
    have Hv:Hid (v=false):=by show _=_;rw [hv,decide_eq_false t4];simp
    have g4:((j.ml.length:Int) != (n:Int))=true:=by rw [bne_iff_ne];omega
    clear hv t1 t2 t3 t4
    go_quiet (fail)
    go_wp2_with fail
    go_ret
    exact ⟨ret_bool Hv.out.symm,bDrN hb2 nq⟩
  have g4:((j.ml.length:Int) != (n:Int))=false:=by rw [bne_eq_false_iff_eq];omega
  by_cases t5:j.mr.length=n
  case neg =>
    have Hv:Hid (v=false):=by show _=_;rw [hv,decide_eq_false t5];simp
    have g5:((j.mr.length:Int) != (n:Int))=true:=by rw [bne_iff_ne];omega
    clear hv t1 t2 t3 t4 t5
    go_quiet (fail)
    go_wp2_with fail
    go_ret
    exact ⟨ret_bool Hv.out.symm,bDrN hb2 nq⟩
  have g5:((j.mr.length:Int) != (n:Int))=false:=by rw [bne_eq_false_iff_eq];omega
  have g6:((j.bare.length:Int) != (n:Int))=false:=by rw [bne_eq_false_iff_eq];omega
  have hki:k<j.mi.length:=by omega
  have hkb:k<j.bare.length:=by omega
  have f1:(k:Int)<(j.mi.length:Int):=by omega
  have f2:(k:Int)<(j.bare.length:Int):=by omega
  obtain ⟨X,hX⟩:∃ X,Hid (j.mi[k]?=some X):=⟨_,Lib.hid (List.getElem?_eq_getElem hki)⟩
  obtain ⟨Y,hY⟩:∃ X,Hid (j.bare[k]?=some X):=⟨_,Lib.hid (List.getElem?_eq_getElem hkb)⟩
  obtain ⟨ba,oa,eA,hba,sa⟩:=SixAt.of (r2.below hb2) hki hX.out
  obtain ⟨bb,ob,eB,hbb,sb⟩:=SixAt.of (r1.below hb2) hkb hY.out
  have hne:=run_neS X Y
  unfold Ltr.agg at hne
  have hXd:j.mi.getD k zeroL=X:=by rw [List.getD_eq_getElem?_getD,hX.out];rfl
  have hYd:j.bare.getD k zeroL=Y:=by rw [List.getD_eq_getElem?_getD,hY.out];rfl
  rw [decide_eq_true t1,decide_eq_true t2,decide_eq_true t3,decide_eq_true t4,decide_eq_true t5,hXd,hYd] at hv
  have T1:=Lib.hid t1
  have T2:=Lib.hid t2
  have T3:=Lib.hid t3
  have T4:=Lib.hid t4
  have T5:=Lib.hid t5
  have hXd2:=Lib.hid hXd
  clear t1 t2 t3 t4 t5 hXd hYd hbl
  subst eA;subst eB
  obtain ⟨a0,a1,a2,a3,a4,a5⟩:=sa
  obtain ⟨q0,q1,q2,q3,q4,q5⟩:=sb
  cases hxy:X.eqB Y
  case false =>
    have Hv:Hid (v=false):=by show _=_;rw [hv,hxy];simp
    rw [hxy] at hne
    clear hv hxy
    go_quiet (fail)
    go_wp2_with fail
    go_ret
    exact ⟨ret_bool Hv.out.symm,bDrN hb2 nq⟩
  rw [hxy] at hne hv
  clear hxy
  have hv1:=Lib.hid hv
  clear hv
  go_quiet (fail)
  have BM3:Blk (w2.drewN nq) gm 53 _:=BM
  have BJ3:Blk (w2.drewN nq) W.heap.size 55 jc:=BJ2
  have BS3:Blk (w2.drewN nq) (W.heap.size+1) 97 s.cl.toArray:=BS2
  have hb3:=bDrN hb2 nq
  clear BM BJ2 BS2 hb2 y0' x0 x1 x2 x3 x4 a0 a1 a2 a3 a4 a5 q0 q1 q2 q3 q4 q5 hne
  generalize w2.drewN nq=w3 at *
  obtain ⟨s0,s1,s37,s73⟩:=stp_cells hs BS3
  have hv:=hv1.out
  clear hv1
  by_cases u1:s.at_=k
  case neg =>
    have Hv:Hid (v=false):=by show _=_;rw [hv,decide_eq_false u1];simp
    have g7:((s.at_:Int) != (k:Int))=true:=by rw [bne_iff_ne];exact u1
    clear hv u1
    go_wp2_with fail
    go_ret
    exact ⟨ret_bool Hv.out.symm,hb3⟩
  have g7:((s.at_:Int) != (k:Int))=false:=by rw [bne_eq_false_iff_eq];exact u1
  by_cases u2:s.left.at_=k
  case neg =>
    have Hv:Hid (v=false):=by show _=_;rw [hv,decide_eq_false u2];simp
    have g8:((s.left.at_:Int) != (k:Int))=true:=by rw [bne_iff_ne];exact u2
    clear hv u1 u2
    go_wp2_with fail
    go_ret
    exact ⟨ret_bool Hv.out.symm,hb3⟩
  have g8:((s.left.at_:Int) != (k:Int))=false:=by rw [bne_eq_false_iff_eq];exact u2
  rw [decide_eq_true u1,decide_eq_true u2] at hv
  have U2:=Lib.hid u2
  clear u1 u2
  by_cases u3:0≤s.mid
  case neg =>
    have Hv:Hid (v=false):=by show _=_;rw [hv,decide_eq_false u3];simp
    have g9:s.mid<0:=by omega
    clear hv u3
    go_wp2_with fail
    go_ret
    exact ⟨ret_bool Hv.out.symm,hb3⟩
  by_cases u4:s.mid<n
  case neg =>
    have Hv:Hid (v=false):=by show _=_;rw [hv,decide_eq_false u4];simp
    have g9:(n:Int)≤s.mid:=by omega
    clear hv u4
    go_wp2_with fail
    go_ret
    exact ⟨ret_bool Hv.out.symm,hb3⟩
  rw [decide_eq_true u3,decide_eq_true u4] at hv
  obtain ⟨m,hm⟩:∃ m:Nat,s.mid=m:=⟨s.mid.toNat,by omega⟩
  rw [hm] at s73 hv u3 u4
  have hmn:m<n:=by omega
  have hmt:((m:Nat):Int).toNat=m:=by omega
  rw [hmt] at hv
  have hM:=Lib.hid hm
  clear hm hmt u3
  obtain ⟨L1,L2⟩:=stp_loads hs BS3
  obtain ⟨x0,x1,x2,x3,x4⟩:=five BM3
  have hmm:m<j.mm.length:=by have:=T2.out;omega
  have hml:m<j.ml.length:=by have:=T4.out;omega
  have hmr:m<j.mr.length:=by have:=T5.out;omega
  obtain ⟨F0,hF0⟩:∃ F0,Hid (F0=fitsB rest (j.ml.getD m []) ⟨#[108,101,102,116]⟩ (j.mi.getD k zeroL) (j.mm.getD m zeroL) s.left):=⟨_,Lib.hid rfl⟩
  obtain ⟨F1,hF1⟩:∃ F1,Hid (F1=fitsB rest (j.mr.getD m []) ⟨#[114,105,103,104,116]⟩ (j.mm.getD m zeroL) (j.mo.getD s.right.at_.toNat zeroL) s.right):=⟨_,Lib.hid rfl⟩
  have qA:=ref_fits0 rest j s.left m k (some ⟨ba,oa,none⟩) A3 A4 A5 A6 c2 c3 c4 c5 c6 w3 ((r2.below hb3).more hb3.size) ((r3.below hb3).more hb3.size) ((r5.below hb3).more hb3.size) d5 hs.2.1 U2.out hki hki hmm hml
  rw [←hF0.out] at qA
  have qB:∀ w,Below W.heap.size W w→Calls Tryz.prog 132 #[.int .i64 rest,mixV (some ⟨ba,oa,none⟩) A3 A4 A5 A6 c2 c3 c4 c5 c6 j,.int .i64 (m:Nat),.int .i64 1,.agg s.right.cl.toArray] w (Ret (.bool (decide (0≤s.right.at_∧s.right.at_<n)&&F1)) w):=by
    intro w hw
    by_cases hr:0≤s.right.at_∧s.right.at_<n
    · rw [decide_eq_true hr,hF1.out]
      have:=T1.out
      have:=T3.out
      exact ref_fits1 rest j s.right m s.right.at_.toNat (some ⟨ba,oa,none⟩) A3 A4 A5 A6 c2 c3 c4 c5 c6 w ((r3.below hw).more hw.size) ((r4.below hw).more hw.size) ((r6.below hw).more hw.size) d6 hs.2.2.1 (by omega) (by omega) hmm (by omega) hmr
    · rw [decide_eq_false hr]
      have:=T1.out
      exact ref_fits1_out rest j s.right m (some ⟨ba,oa,none⟩) A3 A4 A5 A6 c2 c3 c4 c5 c6 w (by omega)
  have Hv:Hid (v=(F0&&(decide (0≤s.right.at_∧s.right.at_<n)&&F1))):=by
    show _=_
    rw [hv,hF0.out,hF1.out,hXd2.out];rfl
  generalize (decide (0≤s.right.at_∧s.right.at_<n)&&F1)=F2 at *
  clear hv hF0 hF1
  unfold mixV at qA qB
  go_upto_region 6 with fail
  apply wp_region_lit
  iterate 15 go_step
  refine wpList_loadG (by rfl) (by rfl) (by rfl) L1 ?_
  simp only [Act.put,List.setIfInBounds_toArray,List.set_cons_zero,List.set_cons_succ]
  cases F0
  case false =>
    have Hw:Hid (v=false):=Lib.hid (Hv.out.trans rfl)
    go_wp2_with fail
    (with_reducible refine qA.mono ?_)
    rintro e w4 ⟨rfl,b4⟩
    go_wp2_with fail
    go_ret
    exact ⟨ret_bool Hw.out.symm,bCall hb3 b4⟩
  case true =>
    have Hw:Hid (v=F2):=Lib.hid (Hv.out.trans rfl)
    go_wp2_with fail
    (with_reducible refine qA.mono ?_)
    rintro e w4 ⟨rfl,b4⟩
    have hb4:=bCall hb3 b4
    have BM4:=BM3.below b4 BM3.lt
    have BS4:=BS3.below b4 BS3.lt
    have qC:=qB w4 hb4
    clear qA qB x0 x1 x2 x3 x4 L1 L2 b4 hb3 BM3 BS3 BJ3 s0 s1 s37 s73
    obtain ⟨L1,L2⟩:=stp_loads hs BS4
    obtain ⟨x0,x1,x2,x3,x4⟩:=five BM4
    obtain ⟨-,-,-,s73'⟩:=stp_cells hs BS4
    have s73:w4.cell? ⟨W.heap.size+1,73,none⟩=some (.int .i64 (m:Nat)):=by rw [s73',hM.out]
    clear s73'
    dsimp only
    (refine ‹∀ (a:Act) (w:World),wpList _ _ _ _ a w→_› _ _ ?_)
    iterate 13 go_step
    refine wpList_loadG (by rfl) (by rfl) (by rfl) L2 ?_
    simp only [Act.put,List.setIfInBounds_toArray,List.set_cons_zero,List.set_cons_succ]
    go_wp2_with fail
    (with_reducible refine qC.mono ?_)
    rintro e w5 ⟨rfl,b5⟩
    go_wp2_with fail
    go_ret
    exact ⟨ret_bool Hw.out.symm,bCall hb4 b5⟩
end Go.Proofs.YtgkpomdegomgiaaGreatDoor

/- frankinglaw56.ArbiterSigned, walked. -/
import Derived.Test.YtgkpomdegomgiaaGreatDoorMbo
import Derived.Test.YtgkpomdegomgiaaGreatDoorMbs
import Derived.Test.YtgkpomdegomgiaaGreatDoorMbv
set_option maxRecDepth 1000000
set_option maxHeartbeats 16000000
namespace Go.Proofs.YtgkpomdegomgiaaGreatDoor
open Go.RowKit
theorem lw_signed (hP:JudgeOk) (cs:Array Value) (jcs:List (Array Value)) (a:Ca) (l:List Int) (Al:Option Addr) (cl:Nat) (W:World) (hG:ShaG W) (h:CaseAt W W.heap.size cs jcs a.c) (hca:a.c.few=true→CaAt W W.heap.size cs jcs a)
    (hl:Rd W W.heap.size 1 Al l.length (ints l)) (hlc:l.length≤cl) (hlc2:cl≤9223372036854775807) :
    Calls Tryz.prog 5 #[.slice Al l.length cl,.agg cs] W (Ret (.bool true) W):=by
  have BC:=Blk.new W 33 cs _ rfl
  have hb:=bAl (bRefl W) (.cells cs 33)
  go_enter Tryz.func5,Tryz.ntmps5
  go_upto_region 1 with fail
  generalize W.alloc (.cells cs 33)=w1 at *
  have q:=aw_sane hP w1 (hG.below hb)
  go_wp2_with fail
  (with_reducible refine q.mono ?_)
  rintro e w2 ⟨rfl,b2⟩
  clear q
  replace BC:=BC.below b2 BC.lt
  replace hb:=bCall hb b2
  clear b2
  have LC:=load_case BC h.size
  have qf:=ref_fewcase cs jcs a.c w2 ((h.below hb).more hb.size)
  go_upto_region 3 with fail
  apply wp_region_lit
  refine wpList_loadG (by rfl) (by rfl) (by rfl) LC ?_
  simp only [Act.put,List.setIfInBounds_toArray,List.set_cons_zero,List.set_cons_succ]
  clear LC
  cases hf:a.c.few
  · rw [hf] at qf
    go_wp2_with fail
    (with_reducible refine qf.mono ?_)
    rintro e w3 ⟨rfl,b3⟩
    go_wp2_with fail
    go_ret
    exact ⟨rfl,bCall hb b3⟩
  rw [hf] at qf
  have CA:=hca hf
  obtain ⟨hkl,hjl,-,hfl⟩:=few_le hf
  clear hf hca
  by_cases hl40:40<l.length
  · have t:(40:Int)<(l.length:Int):=by omega
    go_wp2_with fail
    (with_reducible refine qf.mono ?_)
    rintro e w3 ⟨rfl,b3⟩
    go_wp2_with fail
    go_ret
    exact ⟨rfl,bCall hb b3⟩
  have t40:¬(40:Int)<(l.length:Int):=by omega
  have t40b:decide ((40:Int)<(l.length:Int))=false:=decide_eq_false t40
  go_wp2_with fail
  (with_reducible refine qf.mono ?_)
  rintro e w3 ⟨rfl,b3⟩
  replace BC:=BC.below b3 BC.lt
  replace hb:=bCall hb b3
  clear b3 qf
  have LC:=load_case BC h.size
  have qfm:=ref_formed55 cs jcs a.c w3 ((h.below hb).more hb.size) (by omega) (by omega)
  dsimp only
  (refine ‹∀ (a:Act) (w:World),wpList _ _ _ _ a w→_› _ _ ?_)
  iterate 18 go_step
  refine wpList_loadG (by rfl) (by rfl) (by rfl) LC ?_
  simp only [Act.put,List.setIfInBounds_toArray,List.set_cons_zero,List.set_cons_succ]
  clear LC
  cases hfm:a.c.formed&&(a.c.valid&&a.c.bares)
  · rw [hfm] at qfm
    go_wp2_with fail
    (with_reducible refine qfm.mono ?_)
    rintro e w4 ⟨rfl,b4⟩
    go_wp2_with fail
    go_ret
    exact ⟨rfl,bCall hb b4⟩
  rw [hfm] at qfm
  have hform:a.c.formed=true:=by
    rw [Bool.and_eq_true] at hfm;exact hfm.1
  clear hfm
  go_wp2_with fail
  (with_reducible refine qfm.mono ?_)
  rintro e w4 ⟨rfl,b4⟩
  replace BC:=BC.below b4 BC.lt
  replace hb:=bCall hb b4
  clear b4 qfm
  unfold Cs.formed formedB at hform
  simp only [Bool.and_eq_true,decide_eq_true_eq] at hform
  obtain ⟨n2,-,hjn,-⟩:=hform
  have LC:=load_case BC h.size
  have CA3:=(CA.below hb).more hb.size
  have hl3:=(hl.below hb).more hb.size
  obtain ⟨x,y,e,hR⟩:∃ x y e,a.judge l=(x,y,e):=⟨_,_,_,rfl⟩
  obtain ⟨ck,why,ef,hC⟩:∃ x y e,a.c.check=(x,y,e):=⟨_,_,_,rfl⟩
  have q:=hP.of CA3 rfl hl3 (by omega) hlc hlc2 (hG.below hb) hR
  replace hR:=Lib.hid hR
  clear CA3
  go_upto_region 5 with fail
  apply wp_region_lit
  iterate 3 go_step
  refine wpList_loadG (by rfl) (by rfl) (by rfl) LC ?_
  simp only [Act.put,List.setIfInBounds_toArray,List.set_cons_zero,List.set_cons_succ]
  clear LC
  go_wp2_with fail
  (with_reducible refine q.mono ?_)
  rintro e1 w5 ⟨rfl,b5⟩
  clear q hl3
  replace BC:=BC.below b5 BC.lt
  replace hb:=bCall hb b5
  clear b5
  go_upto_region 6 with fail
  have hvb:W.heap.size<w5.heap.size:=BC.lt
  have BV:=Blk.new w5 37 #[.int .i64 x,.int .i64 y] _ rfl
  replace BC:=BC.alloc (.cells #[.int .i64 x,.int .i64 y] 37)
  replace hb:=bAl hb (.cells #[.int .i64 x,.int .i64 y] 37)
  generalize w5.alloc (.cells #[.int .i64 x,.int .i64 y] 37)=w6 at *
  generalize w5.heap.size=vb at *
  have LC:=load_case BC h.size
  have q:=pa_check cs jcs a.c w6 ((h.below hb).more hb.size) (hG.below hb)
  rw [hC] at q
  replace hC:=Lib.hid hC
  apply wp_region_lit
  refine wpList_loadG (by rfl) (by rfl) (by rfl) LC ?_
  simp only [Act.put,List.setIfInBounds_toArray,List.set_cons_zero,List.set_cons_succ]
  clear LC
  go_wp2_with fail
  (with_reducible refine q.mono ?_)
  rintro e1 w7 ⟨rfl,b7⟩
  clear q
  replace BC:=BC.below b7 BC.lt
  replace BV:=BV.below b7 BV.lt
  replace hb:=bCall hb b7
  clear b7
  by_cases he:e=0
  case neg =>
    have te:(e != 0)=true:=by rw [bne_iff_ne];exact he
    go_wp2_with fail
    go_ret
    exact ⟨rfl,hb⟩
  subst he
  obtain ⟨hlb,hlk,hf0⟩:=judge_zero hR.out
  have he0:ef=0:=by rw [hC.out] at hf0;exact hf0
  subst he0
  clear hf0
  obtain ⟨AK,ckk,k4,hRK⟩:=h.keys
  obtain ⟨bj,oj,cj,h5',hbj,hL⟩:=h.jobLoad (by omega)
  have y4:=(BC.cell 4).trans k4
  have t7:((l.length:Int) != (a.c.keys.length:Int))=false:=by rw [bne_eq_false_iff_eq];omega
  by_cases hw1:why=1
  case pos =>
    subst hw1
    obtain ⟨rfl,rfl⟩:=judge_sent hR.out hC.out
    obtain ⟨x0,x1,-,-⟩:=BV.two_
    have hq:=eqVer (-1) 1 (-1) 1 w7
    go_wp2_with fail
    go_ret
    exact ⟨rfl,hb⟩
  have tw:(why==1)=false:=by rw [beq_eq_false_iff_ne];exact hw1
  have hlim:=Lib.hid (lim_of (l:=l) hC.out)
  have Hlk:=Lib.hid hlk
  have Hjn:=Lib.hid hjn
  have y5:=(BC.cell 5).trans h5'
  go_upto_region 11 with fail
  go_wp2_with fail
  clear y4 y5 t7 tw
  go_loopw [68] (fun lg wr=>∃ i:Nat,i≤a.c.jobs.length∧lg = .int .i64 i∧Below W.heap.size W wr∧Blk wr W.heap.size 33 cs∧Blk wr vb 37 #[.int .i64 x,.int .i64 y]∧Hid (a.okTo l i)) (fun lg _=>a.c.jobs.length - (intOf lg).toNat)
  case atStart=>exact ⟨0,Nat.zero_le _,rfl,hb,BC,BV,Lib.hid (fun j hj=>absurd hj (by omega))⟩
  case round =>
    clear hb BC BV
    obtain ⟨i,hin,rfl,hb,BC,BV,hok⟩:=hrel
    by_cases hlt:i<a.c.jobs.length
    case neg =>
      have hie:i=a.c.jobs.length:=by omega
      have hy:=judge_none hR.out hC.out hw1 (i:=i) (by rw [hlim.out];have:=check_range (c:=a.c) (by rw [hC.out]);rw [hC.out] at this;split <;> simp at this <;> omega) hok.out
      have ty:(y != 2)=true:=by rw [bne_iff_ne];exact hy
      obtain ⟨x0,x1,-,-⟩:=BV.two_
      go_wp2_with fail
      go_ret
      exact ⟨rfl,hb⟩
    obtain ⟨jc,hjc⟩:∃ jc,Hid (jcs[i]?=some jc):=⟨_,Lib.hid (List.getElem?_eq_getElem (by rw [h.jlen];omega))⟩
    obtain ⟨a1,a2,a3,a4⟩:=h.job i jc hjc.out
    have hLc:=(hL i jc hjc.out).2
    have LJ:(Instr.loadAt 55 (.pointer (some ⟨bj,oj+i*49,none⟩))).run Tryz.prog wr = .ok (.agg jc) wr:=by
      have:=run_loadAt_mid (P:=Tryz.prog) wr bj (oj+i*49) 55 jc.toList _ (fun j u hj=>(hb.cell (p:=⟨bj,oj+i*49+j,none⟩) hbj).trans (hLc j u (by simpa using hj))) Tryz.underlying55 rfl (by rw [Array.length_toList,a1];exact job_info)
      rwa [Array.toArray_toList] at this
    have z0:(0:Int)≤(i:Int):=by omega
    have z1:(i:Int)<(a.c.jobs.length:Int):=by omega
    clear hLc
    go_upto_region 13 with fail
    apply wp_region_lit
    iterate 6 go_step
    refine wpList_loadG (by rfl) (by rfl) (by rfl) LJ ?_
    simp only [Act.put,List.setIfInBounds_toArray,List.set_cons_zero,List.set_cons_succ]
    clear LJ
    iterate 6 go_step
    refine wpList_storeG (by rfl) (by rfl) (by rfl) (by rfl) (store_newW (by rw [a1];exact job_info) (by rw [a1];rfl) a2) ?_
    simp only [Act.put]
    have BJ:=Blk.new wr 55 jc _ rfl
    replace BC:=BC.alloc (.cells jc 55)
    replace BV:=BV.alloc (.cells jc 55)
    replace hb:=bAl hb (.cells jc 55)
    generalize wr.alloc (.cells jc 55)=w8 at *
    generalize wr.heap.size=jb at *
    go_upto_region 14 with fail
    go_cut [79] from 69 to 78 (fun s79 wc=>s79 = .bool (decide (why≠0∧ck≤(i:Int)))∧wc=w8)
    case first =>
      by_cases h0:why=0
      · have t1:(why != 0)=false:=by rw [bne_eq_false_iff_eq];exact h0
        have e1:Hid (decide (why≠0∧ck≤(i:Int))=false):=Lib.hid (by simp [h0])
        clear h0
        go_wp2_with fail
        go_meet
        exact ⟨by rw [e1.out],rfl⟩
      · have t1:(why != 0)=true:=by rw [bne_iff_ne];exact h0
        by_cases h2:ck≤(i:Int)
        · have e1:Hid (decide (why≠0∧ck≤(i:Int))=true):=Lib.hid (by simp [h0,h2])
          go_wp2_with fail
          go_meet
          exact ⟨by rw [e1.out],rfl⟩
        · have e1:Hid (decide (why≠0∧ck≤(i:Int))=false):=Lib.hid (by simp [h2])
          go_wp2_with fail
          go_meet
          exact ⟨by rw [e1.out],rfl⟩
    case rest =>
    obtain ⟨rfl,rfl⟩:=hcut
    cases hbr:decide (why≠0∧ck≤(i:Int))
    case true =>
      have hbr':=of_decide_eq_true hbr
      have hy:=judge_none hR.out hC.out hw1 (i:=i) (by rw [hlim.out,if_neg hbr'.1];omega) hok.out
      have ty:(y != 2)=true:=by rw [bne_iff_ne];exact hy
      obtain ⟨x0,x1,-,-⟩:=BV.two_
      clear hbr
      go_wp2_with fail
      go_ret
      exact ⟨rfl,hb⟩
    have hil:Hid (i<a.lim l):=Lib.hid (by
      have hbr':=of_decide_eq_false hbr
      rw [hlim.out]
      have:=Hlk.out
      have:=Hjn.out
      split
      · omega
      · rename_i h0
        have:¬ck≤(i:Int):=fun h=>hbr' ⟨h0,h⟩
        omega)
    clear hbr
    have LJ:=load_job BJ a1
    have qe:=ref_empty jc (a.c.jobAt i).emptyB wc (a3.lens3 a4)
    go_upto_region 15 with fail
    apply wp_region_lit
    refine wpList_loadG (by rfl) (by rfl) (by rfl) LJ ?_
    simp only [Act.put,List.setIfInBounds_toArray,List.set_cons_zero,List.set_cons_succ]
    clear LJ
    cases hem:(a.c.jobAt i).emptyB
    case true =>
      rw [hem] at qe
      have hok2:Hid (a.okTo l (i+1)):=Lib.hid (fun j hj=>by
        rcases Nat.lt_or_ge j i with h1 | h1
        · exact hok.out j h1
        · obtain rfl:j=i:=by omega
          unfold Ca.wrong;rw [hem];rfl)
      clear hem
      go_wp2_with fail
      (with_reducible refine qe.mono ?_)
      rintro e w9 ⟨rfl,b9⟩
      go_wp2_with fail
      exact ⟨⟨i+1,hlt,by go_num,bCall hb b9,BC.below b9 BC.lt,BV.below b9 BV.lt,hok2⟩,by simp [intOf];omega⟩
    rw [hem] at qe
    have Hem:=Lib.hid hem
    clear hem
    go_wp2_with fail
    (with_reducible refine qe.mono ?_)
    rintro e w9 ⟨rfl,b9⟩
    replace BC:=BC.below b9 BC.lt
    replace BV:=BV.below b9 BV.lt
    replace BJ:=BJ.below b9 BJ.lt
    replace hb:=bCall hb b9
    clear b9 qe
    obtain ⟨hd,hhd⟩:∃ hd,a.hs[i]?=some hd:=⟨_,List.getElem?_eq_getElem (by rw [CA.hl];exact hlt)⟩
    have hha:a.handAt i=hd:=by unfold Ca.handAt;rw [List.getD_eq_getElem?_getD,hhd];rfl
    have hho:=CA.hok hd (List.mem_of_getElem? hhd)
    have hjh:=CA.hand i jc hd hjc.out hhd
    have hrp:=right_parts a l i
    rw [hha] at hrp
    obtain ⟨ky,hky⟩:∃ ky,a.c.keys[i]?=some ky:=⟨_,List.getElem?_eq_getElem (by omega)⟩
    have hkk:a.c.keyAt i=ky:=by unfold Cs.keyAt;rw [List.getD_eq_getElem?_getD,hky];rfl
    rw [hkk] at hrp
    obtain ⟨bk,offk,rfl,hbk,d1⟩:=Int_at hRK (by omega) hky
    obtain ⟨fx,hfx⟩:∃ fx,l[i]?=some fx:=⟨_,List.getElem?_eq_getElem (by omega)⟩
    have hof:offAt l i=fx:=by unfold offAt;rw [List.getD_eq_getElem?_getD,hfx];rfl
    rw [hof] at hrp
    obtain ⟨bl,offl,rfl,hbl,d2⟩:=Int_at hl (by omega) hfx
    obtain ⟨Am,cm,u4,hR4⟩:=a3.h4
    have hmo:=CA.lok i
    have hml:=CA.mlen i
    obtain ⟨hc,hhc⟩:∃ hc,hc=hd.cl.toArray:=⟨_,rfl⟩
    obtain ⟨g0,g1,g2,g3,g4,g5,g6,gr,g39,g40,g41⟩:=Hd.cells hho
    have hkio:=CA.kok ky (List.mem_of_getElem? hky)
    have q1:Hid (∀ w,Calls Tryz.prog 15 #[.int .i64 ky,.agg hc] w (Ret (.bool (hd.signed ky)) w)):=Lib.hid (fun w=>by rw [hhc];exact ref_check48 ky hd hho hkio w)
    have q2:Hid (∀ w,Below W.heap.size W w→Calls Tryz.prog 16 #[.slice Am (a.c.jobAt i).mo.length cm] w (Ret (.agg (byts (rootL (a.c.jobAt i).mo)).toArray) w)):=Lib.hid (fun w hw=>ref_root48 Am cm _ hmo w ((hR4.1.below hw).more hw.size) hml)
    have hro:=hho.2.2.2.2.2.2.2.1.1
    have KS:Hid (∀ w',Below w9.heap.size w9 w'→(Instr.loadAt 47 (.pointer (some ⟨jb,7,none⟩))).run Tryz.prog w' = .ok (.agg hc) w'∧(Instr.loadAt 43 (.pointer (some ⟨jb,14,none⟩))).run Tryz.prog w' = .ok (.agg (byts hd.root).toArray) w'∧w'.cell? ⟨W.heap.size,4,none⟩=some (.slice (some ⟨bk,offk,none⟩) a.c.keys.length ckk)∧w'.cell? ⟨bk,offk+i,none⟩=some (.int .i64 ky)∧w'.cell? ⟨jb,7,none⟩=some (.int .i64 hd.line)∧w'.cell? ⟨jb,8,none⟩=some (.int .i64 hd.at_)∧w'.cell? ⟨jb,9,none⟩=some (.int .i64 hd.arrive)∧w'.cell? ⟨W.heap.size,0,none⟩=some (.int .i64 a.line)∧w'.cell? ⟨W.heap.size,1,none⟩=some (.int .i64 a.at_)∧w'.cell? ⟨W.heap.size,2,none⟩=some (.int .i64 a.arrive)∧w'.cell? ⟨jb,10,none⟩=some (.int .i64 hd.leg)∧w'.cell? ⟨jb,11,none⟩=some (.int .i64 hd.from_)∧w'.cell? ⟨bl,offl+i,none⟩=some (.int .i64 fx)∧w'.cell? ⟨jb,13,none⟩=some (.int .i64 hd.many)∧w'.cell? ⟨jb,4,none⟩=some (.slice Am (a.c.jobAt i).mo.length cm)):=Lib.hid (fun w' b=>by
      have B:=BJ.below b BJ.lt
      have C:=BC.below b BC.lt
      have hw:=bCall hb b
      have k:∀ j v,hd.cl[j]?=some v→w'.cell? ⟨jb,7+j,none⟩=some v:=fun j v hv=>(B.cell (7+j)).trans (hjh j v hv)
      refine ⟨?_,?_,(C.cell 4).trans k4,(hw.cell (p:=⟨bk,offk+i,none⟩) hbk).trans d1,k 0 _ g0,k 1 _ g1,k 2 _ g2,(C.cell 0).trans CA.run0,(C.cell 1).trans CA.run1,(C.cell 2).trans CA.run2,k 3 _ g3,k 4 _ g4,(hw.cell (p:=⟨bl,offl+i,none⟩) hbl).trans d2,k 6 _ g6,(B.cell 4).trans u4⟩
      · have:=run_loadAt_mid (P:=Tryz.prog) w' jb 7 47 hd.cl _ (fun j v hv=>k j v hv) Tryz.underlying47 rfl (by rw [Hd.cl_length hho];exact hand_info)
        rw [hhc];exact this
      · exact load_dig hro (fun j v hv=>by
          have hj:j<32:=by have:=(List.getElem?_eq_some_iff.1 hv).1;rwa [byts_length,hro] at this
          have:=k (7+j) v (by rw [gr j hj];exact hv)
          rwa [show 7+(7+j)=14+j by omega] at this))
    have c12:∀ w',Below w9.heap.size w9 w'→w'.cell? ⟨jb,12,none⟩=some (.int .i64 hd.to_):=fun w' b=>((BJ.below b BJ.lt).cell 12).trans (hjh 5 _ g5)
    have C12:=Lib.hid c12
    have hq1:=fun w=>eqRun hd.line hd.at_ hd.arrive a.line a.at_ a.arrive w
    have hq5:=fun w=>run_eqD hd.root (rootL (a.c.jobAt i).mo) hro (rootN_ok _).1 w
    obtain ⟨S,hS⟩:∃ S,S=hd.signed ky:=⟨_,rfl⟩
    obtain ⟨r1,hr1⟩:∃ r,r=decide (hd.line=a.line∧hd.at_=a.at_∧hd.arrive=a.arrive):=⟨_,rfl⟩
    obtain ⟨r2,hr2⟩:∃ r,(hd.leg==(i:Int))=r:=⟨_,rfl⟩
    obtain ⟨r3,hr3⟩:∃ r,(hd.from_==fx)=r:=⟨_,rfl⟩
    obtain ⟨r4,hr4⟩:∃ r,(hd.many==((a.c.jobAt i).mo.length:Int))=r:=⟨_,rfl⟩
    obtain ⟨r5,hr5⟩:∃ r,r=decide (hd.root=rootL (a.c.jobAt i).mo):=⟨_,rfl⟩
    rw [←hS,←hr1,hr2,hr3,hr4,←hr5] at hrp
    rw [←hS] at q1
    rw [←hr1] at hq1
    rw [←hr5] at hq5
    have Hrp:=Lib.hid hrp
    generalize (byts (rootL (a.c.jobAt i).mo)).toArray=XR at *
    generalize (byts hd.root).toArray=XD at *
    clear hrp hS hr1 hr5 hhd hho hjh hky hkk d1 hfx hof d2 hmo hml hhc g0 g1 g2 g3 g4 g5 g6 gr g39 g40 g41 hkio hro u4 hR4 hha c12
    replace Hem:=Hem
    go_upto_region 16 with fail
    go_cut [12] from 82 to 134 (fun s12 wc=>s12 = .bool (S&&(r1&&(r2&&(r3&&(r4&&r5)))))∧Below w9.heap.size w9 wc)
    case first =>
      cases S
      case false =>
        refine wp_region_schB (f:=53) KS [(0,1),(1,2),(2,1),(3,1),(4,2),(5,1),(6,2),(7,0),(8,1),(9,1),(10,1),(11,1),(12,1),(13,1),(14,1),(15,1),(16,1),(17,1),(18,1),(19,1),(20,1),(21,1),(22,1),(23,1),(24,1),(25,1),(26,1),(27,1),(28,1),(29,1),(30,1),(31,1),(32,1),(33,1),(34,1),(35,1),(36,1),(37,1),(38,1),(39,1),(40,1),(41,1),(42,1),(43,1),(44,1),(45,1),(46,1),(47,1),(48,1),(49,1),(50,1),(51,1),(52,1),(53,3)] ?_
        simp only [pickS,List.getElem?_cons_zero,List.getElem?_cons_succ]
        refine wpSched_t ?_
        refine wpSched_r ?_
        refine wpSched_t ?_
        refine wpSched_t ?_
        refine wpSched_r ?_
        refine wpSched_t ?_
        refine wpSched_r (v:=?v1) (hv:=?h1) ?_;case h1=>(intro w hSw;(first | refine (exec_load rfl rfl hSw).trans ?_ | refine (exec_load rfl rfl hSw.1).trans ?_ | refine (exec_load rfl rfl hSw.2.1).trans ?_ | refine (exec_load rfl rfl hSw.2.2.1).trans ?_ | refine (exec_load rfl rfl hSw.2).trans ?_ | refine (exec_load rfl rfl hSw.2.2).trans ?_);with_reducible rfl)
        refine wpSched_force (fun K hK=>?_)
        go_simp;(first | (go_at_call 15;(with_reducible refine (q1.out _).mono ?_);rintro e w10 ⟨rfl,b10⟩;have B7:Below w9.heap.size w9 w10:=bCall (by repeat (first | with_reducible exact bRefl _ | with_reducible refine bDr ?_)) b10) | skip)
        refine shut_go hK KS ?_
        clear hK K
        refine wpSched_t ?_
        refine wpSched_p ?_
        refine wpSched_p ?_
        refine wpSched_p ?_
        refine wpSched_p ?_
        refine wpSched_p ?_
        refine wpSched_p ?_
        refine wpSched_t ?_
        refine wpSched_t ?_
        refine wpSched_p ?_
        refine wpSched_p ?_
        refine wpSched_p ?_
        refine wpSched_p ?_
        refine wpSched_p ?_
        refine wpSched_t ?_
        refine wpSched_t ?_
        refine wpSched_p ?_
        refine wpSched_p ?_
        refine wpSched_p ?_
        refine wpSched_p ?_
        refine wpSched_p ?_
        refine wpSched_p ?_
        refine wpSched_p ?_
        refine wpSched_p ?_
        refine wpSched_t ?_
        refine wpSched_t ?_
        refine wpSched_p ?_
        refine wpSched_p ?_
        refine wpSched_p ?_
        refine wpSched_p ?_
        refine wpSched_p ?_
        refine wpSched_p ?_
        refine wpSched_p ?_
        refine wpSched_p ?_
        refine wpSched_t ?_
        refine wpSched_t ?_
        refine wpSched_p ?_
        refine wpSched_p ?_
        refine wpSched_p ?_
        refine wpSched_p ?_
        refine wpSched_p ?_
        refine wpSched_p ?_
        refine wpSched_p ?_
        refine wpSched_p ?_
        refine wpSched_t ?_
        refine wpSched_last ?_
        first | simp only [List.map_nil] | simp only [List.map_cons,List.map_nil]
        go_wp2_with fail
        refine NoPanic.normal ?_
        go_wp2_with fail
        go_meet
        exact ⟨rfl,B7⟩
      cases r1
      case false =>
        refine wp_region_schB (f:=53) KS [(0,1),(1,2),(2,1),(3,1),(4,2),(5,1),(6,2),(7,0),(8,1),(9,1),(10,1),(11,2),(12,1),(13,2),(14,1),(15,1),(16,1),(17,1),(18,1),(19,1),(20,1),(21,1),(22,1),(23,1),(24,1),(25,1),(26,1),(27,1),(28,1),(29,1),(30,1),(31,1),(32,1),(33,1),(34,1),(35,1),(36,1),(37,1),(38,1),(39,1),(40,1),(41,1),(42,1),(43,1),(44,1),(45,1),(46,1),(47,1),(48,1),(49,1),(50,1),(51,1),(52,1),(53,3)] ?_
        simp only [pickS,List.getElem?_cons_zero,List.getElem?_cons_succ]
        refine wpSched_t ?_
        refine wpSched_r ?_
        refine wpSched_t ?_
        refine wpSched_t ?_
        refine wpSched_r ?_
        refine wpSched_t ?_
        refine wpSched_r (v:=?v2) (hv:=?h2) ?_;case h2=>(intro w hSw;(first | refine (exec_load rfl rfl hSw).trans ?_ | refine (exec_load rfl rfl hSw.1).trans ?_ | refine (exec_load rfl rfl hSw.2.1).trans ?_ | refine (exec_load rfl rfl hSw.2.2.1).trans ?_ | refine (exec_load rfl rfl hSw.2).trans ?_ | refine (exec_load rfl rfl hSw.2.2).trans ?_);with_reducible rfl)
        refine wpSched_force (fun K hK=>?_)
        go_simp;(first | (go_at_call 15;(with_reducible refine (q1.out _).mono ?_);rintro e w10 ⟨rfl,b10⟩;have B7:Below w9.heap.size w9 w10:=bCall (by repeat (first | with_reducible exact bRefl _ | with_reducible refine bDr ?_)) b10) | skip)
        refine shut_go hK KS ?_
        clear hK K
        refine wpSched_t ?_
        refine wpSched_t ?_
        refine wpSched_t ?_
        refine wpSched_r ?_
        refine wpSched_t ?_
        refine wpSched_r ?_
        refine wpSched_t ?_
        refine wpSched_t ?_
        refine wpSched_t ?_
        refine wpSched_p ?_
        refine wpSched_p ?_
        refine wpSched_p ?_
        refine wpSched_p ?_
        refine wpSched_p ?_
        refine wpSched_t ?_
        refine wpSched_t ?_
        refine wpSched_p ?_
        refine wpSched_p ?_
        refine wpSched_p ?_
        refine wpSched_p ?_
        refine wpSched_p ?_
        refine wpSched_p ?_
        refine wpSched_p ?_
        refine wpSched_p ?_
        refine wpSched_t ?_
        refine wpSched_t ?_
        refine wpSched_p ?_
        refine wpSched_p ?_
        refine wpSched_p ?_
        refine wpSched_p ?_
        refine wpSched_p ?_
        refine wpSched_p ?_
        refine wpSched_p ?_
        refine wpSched_p ?_
        refine wpSched_t ?_
        refine wpSched_t ?_
        refine wpSched_p ?_
        refine wpSched_p ?_
        refine wpSched_p ?_
        refine wpSched_p ?_
        refine wpSched_p ?_
        refine wpSched_p ?_
        refine wpSched_p ?_
        refine wpSched_p ?_
        refine wpSched_t ?_
        refine wpSched_last ?_
        first | simp only [List.map_nil] | simp only [List.map_cons,List.map_nil]
        go_wp2_with fail
        refine NoPanic.normal ?_
        go_wp2_with fail
        go_meet
        exact ⟨rfl,B7⟩
      cases r2
      case false =>
        refine wp_region_schB (f:=53) KS [(0,1),(1,2),(2,1),(3,1),(4,2),(5,1),(6,2),(7,0),(8,1),(9,1),(10,1),(11,2),(12,1),(13,2),(14,1),(15,1),(16,1),(17,1),(18,1),(19,2),(20,1),(21,1),(22,1),(23,1),(24,1),(25,1),(26,1),(27,1),(28,1),(29,1),(30,1),(31,1),(32,1),(33,1),(34,1),(35,1),(36,1),(37,1),(38,1),(39,1),(40,1),(41,1),(42,1),(43,1),(44,1),(45,1),(46,1),(47,1),(48,1),(49,1),(50,1),(51,1),(52,1),(53,3)] ?_
        simp only [pickS,List.getElem?_cons_zero,List.getElem?_cons_succ]
        refine wpSched_t ?_
        refine wpSched_r ?_
        refine wpSched_t ?_
        refine wpSched_t ?_
        refine wpSched_r ?_
        refine wpSched_t ?_
        refine wpSched_r (v:=?v3) (hv:=?h3) ?_;case h3=>(intro w hSw;(first | refine (exec_load rfl rfl hSw).trans ?_ | refine (exec_load rfl rfl hSw.1).trans ?_ | refine (exec_load rfl rfl hSw.2.1).trans ?_ | refine (exec_load rfl rfl hSw.2.2.1).trans ?_ | refine (exec_load rfl rfl hSw.2).trans ?_ | refine (exec_load rfl rfl hSw.2.2).trans ?_);with_reducible rfl)
        refine wpSched_force (fun K hK=>?_)
        go_simp;(first | (go_at_call 15;(with_reducible refine (q1.out _).mono ?_);rintro e w10 ⟨rfl,b10⟩;have B7:Below w9.heap.size w9 w10:=bCall (by repeat (first | with_reducible exact bRefl _ | with_reducible refine bDr ?_)) b10) | skip)
        refine shut_go hK KS ?_
        clear hK K
        refine wpSched_t ?_
        refine wpSched_t ?_
        refine wpSched_t ?_
        refine wpSched_r ?_
        refine wpSched_t ?_
        refine wpSched_r ?_
        refine wpSched_t ?_
        refine wpSched_t ?_
        refine wpSched_t ?_
        refine wpSched_t ?_
        refine wpSched_t ?_
        refine wpSched_r ?_
        refine wpSched_t ?_
        refine wpSched_t ?_
        refine wpSched_t ?_
        refine wpSched_t ?_
        refine wpSched_p ?_
        refine wpSched_p ?_
        refine wpSched_p ?_
        refine wpSched_p ?_
        refine wpSched_p ?_
        refine wpSched_p ?_
        refine wpSched_p ?_
        refine wpSched_p ?_
        refine wpSched_t ?_
        refine wpSched_t ?_
        refine wpSched_p ?_
        refine wpSched_p ?_
        refine wpSched_p ?_
        refine wpSched_p ?_
        refine wpSched_p ?_
        refine wpSched_p ?_
        refine wpSched_p ?_
        refine wpSched_p ?_
        refine wpSched_t ?_
        refine wpSched_t ?_
        refine wpSched_p ?_
        refine wpSched_p ?_
        refine wpSched_p ?_
        refine wpSched_p ?_
        refine wpSched_p ?_
        refine wpSched_p ?_
        refine wpSched_p ?_
        refine wpSched_p ?_
        refine wpSched_t ?_
        refine wpSched_last ?_
        first | simp only [List.map_nil] | simp only [List.map_cons,List.map_nil]
        go_wp2_with fail
        refine NoPanic.normal ?_
        go_wp2_with fail
        go_meet
        exact ⟨rfl,B7⟩
      cases r3
      case false =>
        refine wp_region_schB (f:=53) KS [(0,1),(1,2),(2,1),(3,1),(4,2),(5,1),(6,2),(7,0),(8,1),(9,1),(10,1),(11,2),(12,1),(13,2),(14,1),(15,1),(16,1),(17,1),(18,1),(19,2),(20,1),(21,1),(22,1),(23,1),(24,1),(25,1),(26,2),(27,1),(28,1),(29,1),(30,2),(31,1),(32,1),(33,1),(34,1),(35,1),(36,1),(37,1),(38,1),(39,1),(40,1),(41,1),(42,1),(43,1),(44,1),(45,1),(46,1),(47,1),(48,1),(49,1),(50,1),(51,1),(52,1),(53,3)] ?_
        simp only [pickS,List.getElem?_cons_zero,List.getElem?_cons_succ]
        refine wpSched_t ?_
        refine wpSched_r ?_
        refine wpSched_t ?_
        refine wpSched_t ?_
        refine wpSched_r ?_
        refine wpSched_t ?_
        refine wpSched_r (v:=?v4) (hv:=?h4) ?_;case h4=>(intro w hSw;(first | refine (exec_load rfl rfl hSw).trans ?_ | refine (exec_load rfl rfl hSw.1).trans ?_ | refine (exec_load rfl rfl hSw.2.1).trans ?_ | refine (exec_load rfl rfl hSw.2.2.1).trans ?_ | refine (exec_load rfl rfl hSw.2).trans ?_ | refine (exec_load rfl rfl hSw.2.2).trans ?_);with_reducible rfl)
        refine wpSched_force (fun K hK=>?_)
        go_simp;(first | (go_at_call 15;(with_reducible refine (q1.out _).mono ?_);rintro e w10 ⟨rfl,b10⟩;have B7:Below w9.heap.size w9 w10:=bCall (by repeat (first | with_reducible exact bRefl _ | with_reducible refine bDr ?_)) b10) | skip)
        refine shut_go hK KS ?_
        clear hK K
        refine wpSched_t ?_
        refine wpSched_t ?_
        refine wpSched_t ?_
        refine wpSched_r ?_
        refine wpSched_t ?_
        refine wpSched_r ?_
        refine wpSched_t ?_
        refine wpSched_t ?_
        refine wpSched_t ?_
        refine wpSched_t ?_
        refine wpSched_t ?_
        refine wpSched_r ?_
        refine wpSched_t ?_
        refine wpSched_t ?_
        refine wpSched_t ?_
        refine wpSched_t ?_
        refine wpSched_t ?_
        refine wpSched_t ?_
        refine wpSched_r ?_
        refine wpSched_t ?_
        refine wpSched_t ?_
        refine wpSched_t ?_
        refine wpSched_r ?_
        refine wpSched_t ?_
        refine wpSched_t ?_
        refine wpSched_t ?_
        refine wpSched_p ?_
        refine wpSched_p ?_
        refine wpSched_p ?_
        refine wpSched_p ?_
        refine wpSched_p ?_
        refine wpSched_p ?_
        refine wpSched_p ?_
        refine wpSched_p ?_
        refine wpSched_t ?_
        refine wpSched_t ?_
        refine wpSched_p ?_
        refine wpSched_p ?_
        refine wpSched_p ?_
        refine wpSched_p ?_
        refine wpSched_p ?_
        refine wpSched_p ?_
        refine wpSched_p ?_
        refine wpSched_p ?_
        refine wpSched_t ?_
        refine wpSched_last ?_
        first | simp only [List.map_nil] | simp only [List.map_cons,List.map_nil]
        go_wp2_with fail
        refine NoPanic.normal ?_
        go_wp2_with fail
        go_meet
        exact ⟨rfl,B7⟩
      cases r4
      case false =>
        refine wp_region_schB (f:=53) KS [(0,1),(1,2),(2,1),(3,1),(4,2),(5,1),(6,2),(7,0),(8,1),(9,1),(10,1),(11,2),(12,1),(13,2),(14,1),(15,1),(16,1),(17,1),(18,1),(19,2),(20,1),(21,1),(22,1),(23,1),(24,1),(25,1),(26,2),(27,1),(28,1),(29,1),(30,2),(31,1),(32,1),(33,1),(34,1),(35,1),(36,2),(37,1),(38,1),(39,2),(40,1),(41,1),(42,1),(43,1),(44,1),(45,1),(46,1),(47,1),(48,1),(49,1),(50,1),(51,1),(52,1),(53,3)] ?_
        simp only [pickS,List.getElem?_cons_zero,List.getElem?_cons_succ]
        refine wpSched_t ?_
        refine wpSched_r ?_
        refine wpSched_t ?_
        refine wpSched_t ?_
        refine wpSched_r ?_
        refine wpSched_t ?_
        refine wpSched_r (v:=?v5) (hv:=?h5) ?_;case h5=>(intro w hSw;(first | refine (exec_load rfl rfl hSw).trans ?_ | refine (exec_load rfl rfl hSw.1).trans ?_ | refine (exec_load rfl rfl hSw.2.1).trans ?_ | refine (exec_load rfl rfl hSw.2.2.1).trans ?_ | refine (exec_load rfl rfl hSw.2).trans ?_ | refine (exec_load rfl rfl hSw.2.2).trans ?_);with_reducible rfl)
        refine wpSched_force (fun K hK=>?_)
        go_simp;(first | (go_at_call 15;(with_reducible refine (q1.out _).mono ?_);rintro e w10 ⟨rfl,b10⟩;have B7:Below w9.heap.size w9 w10:=bCall (by repeat (first | with_reducible exact bRefl _ | with_reducible refine bDr ?_)) b10) | skip)
        refine shut_go hK KS ?_
        clear hK K
        refine wpSched_t ?_
        refine wpSched_t ?_
        refine wpSched_t ?_
        refine wpSched_r ?_
        refine wpSched_t ?_
        refine wpSched_r ?_
        refine wpSched_t ?_
        refine wpSched_t ?_
        refine wpSched_t ?_
        refine wpSched_t ?_
        refine wpSched_t ?_
        refine wpSched_r ?_
        refine wpSched_t ?_
        refine wpSched_t ?_
        refine wpSched_t ?_
        refine wpSched_t ?_
        refine wpSched_t ?_
        refine wpSched_t ?_
        refine wpSched_r ?_
        refine wpSched_t ?_
        refine wpSched_t ?_
        refine wpSched_t ?_
        refine wpSched_r ?_
        refine wpSched_t ?_
        refine wpSched_t ?_
        refine wpSched_t ?_
        refine wpSched_t ?_
        refine wpSched_t ?_
        refine wpSched_r ?_
        refine wpSched_t ?_
        refine wpSched_t ?_
        refine wpSched_r ?_
        refine wpSched_t ?_
        refine wpSched_t ?_
        refine wpSched_t ?_
        refine wpSched_t ?_
        refine wpSched_p ?_
        refine wpSched_p ?_
        refine wpSched_p ?_
        refine wpSched_p ?_
        refine wpSched_p ?_
        refine wpSched_p ?_
        refine wpSched_p ?_
        refine wpSched_p ?_
        refine wpSched_t ?_
        refine wpSched_last ?_
        first | simp only [List.map_nil] | simp only [List.map_cons,List.map_nil]
        go_wp2_with fail
        refine NoPanic.normal ?_
        go_wp2_with fail
        go_meet
        exact ⟨rfl,B7⟩
      refine wp_region_schB (f:=53) KS [(0,1),(1,2),(2,1),(3,1),(4,2),(5,1),(6,2),(7,0),(8,1),(9,1),(10,1),(11,2),(12,1),(13,2),(14,1),(15,1),(16,1),(17,1),(18,1),(19,2),(20,1),(21,1),(22,1),(23,1),(24,1),(25,1),(26,2),(27,1),(28,1),(29,1),(30,2),(31,1),(32,1),(33,1),(34,1),(35,1),(36,2),(37,1),(38,1),(39,2),(40,1),(41,1),(42,1),(43,1),(44,1),(45,1),(46,2),(47,1),(48,1),(49,2),(50,0),(51,1),(52,1),(53,3)] ?_
      simp only [pickS,List.getElem?_cons_zero,List.getElem?_cons_succ]
      refine wpSched_t ?_
      refine wpSched_r ?_
      refine wpSched_t ?_
      refine wpSched_t ?_
      refine wpSched_r ?_
      refine wpSched_t ?_
      refine wpSched_r (v:=?v6) (hv:=?h6) ?_;case h6=>(intro w hSw;(first | refine (exec_load rfl rfl hSw).trans ?_ | refine (exec_load rfl rfl hSw.1).trans ?_ | refine (exec_load rfl rfl hSw.2.1).trans ?_ | refine (exec_load rfl rfl hSw.2.2.1).trans ?_ | refine (exec_load rfl rfl hSw.2).trans ?_ | refine (exec_load rfl rfl hSw.2.2).trans ?_);with_reducible rfl)
      refine wpSched_force (fun K hK=>?_)
      go_simp;(first | (go_at_call 15;(with_reducible refine (q1.out _).mono ?_);rintro e w10 ⟨rfl,b10⟩;have B7:Below w9.heap.size w9 w10:=bCall (by repeat (first | with_reducible exact bRefl _ | with_reducible refine bDr ?_)) b10) | (go_at_call 16;(with_reducible refine (q2.out _ (bCall hb B7)).mono ?_);rintro e w11 ⟨rfl,b11⟩;have B8:Below w9.heap.size w9 w11:=bCall B7 b11) | skip)
      refine shut_go hK KS ?_
      clear hK K
      refine wpSched_t ?_
      refine wpSched_t ?_
      refine wpSched_t ?_
      refine wpSched_r ?_
      refine wpSched_t ?_
      refine wpSched_r ?_
      refine wpSched_t ?_
      refine wpSched_t ?_
      refine wpSched_t ?_
      refine wpSched_t ?_
      refine wpSched_t ?_
      refine wpSched_r ?_
      refine wpSched_t ?_
      refine wpSched_t ?_
      refine wpSched_t ?_
      refine wpSched_t ?_
      refine wpSched_t ?_
      refine wpSched_t ?_
      refine wpSched_r ?_
      refine wpSched_t ?_
      refine wpSched_t ?_
      refine wpSched_t ?_
      refine wpSched_r ?_
      refine wpSched_t ?_
      refine wpSched_t ?_
      refine wpSched_t ?_
      refine wpSched_t ?_
      refine wpSched_t ?_
      refine wpSched_r ?_
      refine wpSched_t ?_
      refine wpSched_t ?_
      refine wpSched_r ?_
      refine wpSched_t ?_
      refine wpSched_t ?_
      refine wpSched_t ?_
      refine wpSched_t ?_
      refine wpSched_t ?_
      refine wpSched_t ?_
      refine wpSched_r (v:=?v7) (hv:=?h7) ?_;case h7=>(intro w hSw;(first | refine (exec_load rfl rfl hSw).trans ?_ | refine (exec_load rfl rfl hSw.1).trans ?_ | refine (exec_load rfl rfl hSw.2.1).trans ?_ | refine (exec_load rfl rfl hSw.2.2.1).trans ?_ | refine (exec_load rfl rfl hSw.2).trans ?_ | refine (exec_load rfl rfl hSw.2.2).trans ?_);with_reducible rfl)
      refine wpSched_t ?_
      refine wpSched_t ?_
      refine wpSched_r ?_
      refine wpSched_force (fun K hK=>?_)
      go_simp;(first | (go_at_call 15;(with_reducible refine (q1.out _).mono ?_);rintro e w10 ⟨rfl,b10⟩;have B7:Below w9.heap.size w9 w10:=bCall (by repeat (first | with_reducible exact bRefl _ | with_reducible refine bDr ?_)) b10) | (go_at_call 16;(with_reducible refine (q2.out _ (bCall hb B7)).mono ?_);rintro e w11 ⟨rfl,b11⟩;have B8:Below w9.heap.size w9 w11:=bCall B7 b11) | skip)
      refine shut_go hK KS ?_
      clear hK K
      refine wpSched_t ?_
      refine wpSched_t ?_
      refine wpSched_last ?_
      first | simp only [List.map_nil] | simp only [List.map_cons,List.map_nil]
      go_wp2_with fail
      refine NoPanic.normal ?_
      go_wp2_with fail
      go_meet
      exact ⟨rfl,B8⟩
    case rest =>
    obtain ⟨rfl,b10⟩:=hcut
    replace BC:=BC.below b10 BC.lt
    replace BV:=BV.below b10 BV.lt
    replace hb:=bCall hb b10
    have c12:=C12.out wc b10
    clear KS q1 q2 hq1 hq5 C12 b10 BJ
    generalize (S&&(r1&&(r2&&(r3&&(r4&&r5)))))=g at *
    clear hr2 hr3 hr4
    by_cases hnl:i+1<l.length
    · obtain ⟨nx,hnx⟩:∃ nx,l[i+1]?=some nx:=⟨_,List.getElem?_eq_getElem hnl⟩
      have hno:nextOff l i=nx:=by unfold nextOff;rw [List.getD_eq_getElem?_getD,hnx];rfl
      have hcn:=hl.2 (by omega)
      obtain ⟨b2,o2,e2,_,hc2⟩:=hcn
      injection e2 with e2
      injection e2 with e3 e4
      subst e3;subst e4
      have d2:=(hb.cell (p:=⟨bl,offl+(i+1),none⟩) hbl).trans (hc2 (i+1) _ (ints_at hnx))
      obtain ⟨r6,hr6⟩:∃ r,(hd.to_==nx)=r:=⟨_,rfl⟩
      have Hrq:Hid (a.right l i=(g&&r6)):=Lib.hid (by rw [Hrp.out,hno,hr6])
      have f1:IntKind.i64.wrap ((i:Int)+1)=(i:Int)+1:=by rw [IntKind.wrap_i64];omega
      have f2:((i:Int)+1).toNat=i+1:=by omega
      have f3:(0:Int)≤(i:Int)+1:=by omega
      have f4:(i:Int)+1<(l.length:Int):=by omega
      clear hnx hno hc2
      go_upto_region 18 with fail
      cases g
      · go_quiet (fail)
        have hwr:a.wrong l i=true:=by unfold Ca.wrong;rw [Hem.out,Hrq.out];rfl
        obtain ⟨rfl,rfl⟩:=judge_some hR.out hC.out hw1 hil.out hok.out hwr
        obtain ⟨x0,x1,-,-⟩:_∧_∧_∧_:=(show Blk (wc.drewN nq) vb 37 _ from BV).two_
        have hq:=eqVer (i:Int) 2 (i:Int) 2 (wc.drewN nq)
        go_wp2_with fail
        go_ret
        exact ⟨rfl,bDrN hb nq⟩
      · cases r6
        · go_quiet (fail)
          have hwr:a.wrong l i=true:=by unfold Ca.wrong;rw [Hem.out,Hrq.out];rfl
          obtain ⟨rfl,rfl⟩:=judge_some hR.out hC.out hw1 hil.out hok.out hwr
          obtain ⟨x0,x1,-,-⟩:_∧_∧_∧_:=(show Blk (wc.drewN nq) vb 37 _ from BV).two_
          have hq:=eqVer (i:Int) 2 (i:Int) 2 (wc.drewN nq)
          go_wp2_with fail
          go_ret
          exact ⟨rfl,bDrN hb nq⟩
        · go_quiet (fail)
          have hok2:Hid (a.okTo l (i+1)):=Lib.hid (fun j hj=>by
            rcases Nat.lt_or_ge j i with h1 | h1
            · exact hok.out j h1
            · obtain rfl:j=i:=by omega
              unfold Ca.wrong;rw [Hem.out,Hrq.out];rfl)
          go_wp2_with fail
          exact ⟨⟨i+1,hlt,by go_num,bDrN hb nq,BC,BV,hok2⟩,by simp [intOf];omega⟩
    · have hno:nextOff l i = -1:=by unfold nextOff;rw [List.getD_eq_getElem?_getD,List.getElem?_eq_none (by omega)];rfl
      obtain ⟨r6,hr6⟩:∃ r,(hd.to_ == -1)=r:=⟨_,rfl⟩
      have Hrq:Hid (a.right l i=(g&&r6)):=Lib.hid (by rw [Hrp.out,hno,hr6])
      have f1:IntKind.i64.wrap ((i:Int)+1)=(i:Int)+1:=by rw [IntKind.wrap_i64];omega
      have f4:¬(i:Int)+1<(l.length:Int):=by omega
      clear hno
      go_upto_region 19 with fail
      cases g
      · have hwr:a.wrong l i=true:=by unfold Ca.wrong;rw [Hem.out,Hrq.out];rfl
        obtain ⟨rfl,rfl⟩:=judge_some hR.out hC.out hw1 hil.out hok.out hwr
        obtain ⟨x0,x1,-,-⟩:=BV.two_
        have hq:=eqVer (i:Int) 2 (i:Int) 2 wc
        go_wp2_with fail
        go_ret
        exact ⟨rfl,hb⟩
      · cases r6
        · have hwr:a.wrong l i=true:=by unfold Ca.wrong;rw [Hem.out,Hrq.out];rfl
          obtain ⟨rfl,rfl⟩:=judge_some hR.out hC.out hw1 hil.out hok.out hwr
          obtain ⟨x0,x1,-,-⟩:=BV.two_
          have hq:=eqVer (i:Int) 2 (i:Int) 2 wc
          go_wp2_with fail
          go_ret
          exact ⟨rfl,hb⟩
        · have hok2:Hid (a.okTo l (i+1)):=Lib.hid (fun j hj=>by
            rcases Nat.lt_or_ge j i with h1 | h1
            · exact hok.out j h1
            · obtain rfl:j=i:=by omega
              unfold Ca.wrong;rw [Hem.out,Hrq.out];rfl)
          go_wp2_with fail
          exact ⟨⟨i+1,hlt,by go_num,hb,BC,BV,hok2⟩,by simp [intOf];omega⟩
end Go.Proofs.YtgkpomdegomgiaaGreatDoor

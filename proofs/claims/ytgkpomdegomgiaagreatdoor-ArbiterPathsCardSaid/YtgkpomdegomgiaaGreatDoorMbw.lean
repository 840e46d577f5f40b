/- frankinglaw56.ArbiterPaths, walked. -/
import Derived.Test.YtgkpomdegomgiaaGreatDoorMbp
import Derived.Test.YtgkpomdegomgiaaGreatDoorMbv
import Derived.Test.YtgkpomdegomgiaaGreatDoorMbo
set_option maxRecDepth 1000000
set_option maxHeartbeats 16000000
namespace Go.Proofs.YtgkpomdegomgiaaGreatDoor
open Go.RowKit
theorem okTo_next {a:Ca} {l:List Int} {i:Nat} (h:a.okTo l i) (hw:a.wrong l i=false):a.okTo l (i+1):=fun j hj=>by
  rcases Nat.lt_or_ge j i with h1 | h1
  · exact h j h1
  · obtain rfl:j=i:=by omega
    exact hw
theorem lw_paths56 (hP:JudgeOk) (cs:Array Value) (jcs:List (Array Value)) (a:Ca) (l:List Int) (Al:Option Addr) (cl:Nat) (hd:Hd) (hdo:hd.ok) (n:Int) (W:World) (hG:ShaG W) (h:CaseAt W W.heap.size cs jcs a.c) (hca:a.c.few=true→CaAt W W.heap.size cs jcs a)
    (hl:Rd W W.heap.size 1 Al l.length (ints l)) (hlc:l.length≤cl) (hlc2:cl≤9223372036854775807) :
    Calls Tryz.prog 4 #[.slice Al l.length cl,.agg cs,.agg hd.cl.toArray,.int .i64 n] W (Ret (.bool true) W):=by
  obtain ⟨hc,hhc⟩:∃ hc,hc=hd.cl.toArray:=⟨_,rfl⟩
  rw [←hhc]
  have hsz:hc.size=42:=by rw [hhc,List.size_toArray,Hd.cl_length hdo]
  have hhone:∀ v∈hc.toList,v.oneCell'=true:=by rw [hhc];exact hd.one
  replace hhc:=Lib.hid hhc
  obtain ⟨w1,hw1⟩:∃ w1,w1=(W.alloc (.cells cs 33)).alloc (.cells hc 47):=⟨_,rfl⟩
  have BC:Blk w1 W.heap.size 33 cs:=by rw [hw1];exact (Blk.new W _ _ _ rfl).alloc _
  have BN:Blk w1 (W.heap.size+1) 47 hc:=by rw [hw1];exact Blk.new _ _ _ _ (by simp)
  have hb:Below W.heap.size W w1:=by rw [hw1];exact bAl (bAl (bRefl W) _) _
  go_enter Tryz.func4,Tryz.ntmps4
  go_upto_region 1 with fail
  rw [←hw1]
  clear hw1
  have q:=aw_sane hP w1 (hG.below hb)
  go_wp2_with fail
  (with_reducible refine q.mono ?_)
  rintro e w2 ⟨rfl,b2⟩
  clear q
  replace BC:=BC.below b2 BC.lt
  replace BN:=BN.below b2 BN.lt
  replace hb:=bCall hb b2
  clear b2
  have LC:=load_case BC h.size
  have qf:=ref_fewcase cs jcs a.c w2 ((h.below hb).more hb.size)
  go_upto_region 3 with fail
  apply wp_region_lit
  refine wpList_loadG (by rfl) (by rfl) (by rfl) LC ?_
  simp only [Act.put,List.setIfInBounds_toArray,List.set_cons_zero,List.set_cons_succ]
  clear LC
  cases hf:a.c.few
  · rw [hf] at qf
    go_wp2_with fail
    (with_reducible refine qf.mono ?_)
    rintro e w3 ⟨rfl,b3⟩
    go_wp2_with fail
    go_ret
    exact ⟨rfl,bCall hb b3⟩
  rw [hf] at qf
  have CA:=hca hf
  obtain ⟨hkl,hjl,-,hfl⟩:=few_le hf
  clear hf hca
  by_cases hl40:40<l.length
  · have t:(40:Int)<(l.length:Int):=by omega
    go_wp2_with fail
    (with_reducible refine qf.mono ?_)
    rintro e w3 ⟨rfl,b3⟩
    go_wp2_with fail
    go_ret
    exact ⟨rfl,bCall hb b3⟩
  have t40:¬(40:Int)<(l.length:Int):=by omega
  have t40b:decide ((40:Int)<(l.length:Int))=false:=decide_eq_false t40
  go_wp2_with fail
  (with_reducible refine qf.mono ?_)
  rintro e w3 ⟨rfl,b3⟩
  replace BC:=BC.below b3 BC.lt
  replace BN:=BN.below b3 BN.lt
  replace hb:=bCall hb b3
  clear b3 qf
  have LC:=load_case BC h.size
  have CA3:=(CA.below hb).more hb.size
  have hl3:=(hl.below hb).more hb.size
  obtain ⟨x,y,e,hR⟩:∃ x y e,a.judge l=(x,y,e):=⟨_,_,_,rfl⟩
  obtain ⟨ck,why,ef,hC⟩:∃ x y e,a.c.check=(x,y,e):=⟨_,_,_,rfl⟩
  have q:=hP.of CA3 rfl hl3 (by omega) hlc hlc2 (hG.below hb) hR
  replace hR:=Lib.hid hR
  clear CA3
  go_upto_region 5 with fail
  apply wp_region_lit
  iterate 3 go_step
  refine wpList_loadG (by rfl) (by rfl) (by rfl) LC ?_
  simp only [Act.put,List.setIfInBounds_toArray,List.set_cons_zero,List.set_cons_succ]
  clear LC
  go_wp2_with fail
  (with_reducible refine q.mono ?_)
  rintro e1 w5 ⟨rfl,b5⟩
  clear q hl3
  replace BC:=BC.below b5 BC.lt
  replace BN:=BN.below b5 BN.lt
  replace hb:=bCall hb b5
  clear b5
  go_upto_region 6 with fail
  have hvb:W.heap.size+1<w5.heap.size:=BN.lt
  have BV:=Blk.new w5 37 #[.int .i64 x,.int .i64 y] _ rfl
  replace BC:=BC.alloc (.cells #[.int .i64 x,.int .i64 y] 37)
  replace BN:=BN.alloc (.cells #[.int .i64 x,.int .i64 y] 37)
  replace hb:=bAl hb (.cells #[.int .i64 x,.int .i64 y] 37)
  generalize w5.alloc (.cells #[.int .i64 x,.int .i64 y] 37)=w6 at *
  generalize w5.heap.size=vb at *
  have LC:=load_case BC h.size
  have q:=pa_check cs jcs a.c w6 ((h.below hb).more hb.size) (hG.below hb)
  rw [hC] at q
  replace hC:=Lib.hid hC
  apply wp_region_lit
  refine wpList_loadG (by rfl) (by rfl) (by rfl) LC ?_
  simp only [Act.put,List.setIfInBounds_toArray,List.set_cons_zero,List.set_cons_succ]
  clear LC
  go_wp2_with fail
  (with_reducible refine q.mono ?_)
  rintro e1 w7 ⟨rfl,b7⟩
  clear q
  replace BC:=BC.below b7 BC.lt
  replace BN:=BN.below b7 BN.lt
  replace BV:=BV.below b7 BV.lt
  replace hb:=bCall hb b7
  clear b7
  by_cases he:e=0
  case neg =>
    have te:(e != 0)=true:=by rw [bne_iff_ne];exact he
    obtain ⟨rfl,rfl⟩:=judge_errs hR.out he
    obtain ⟨x0,x1,-,-⟩:=BV.two_
    have hq:=eqVer 0 0 0 0 w7
    go_wp2_with fail
    go_ret
    exact ⟨rfl,hb⟩
  subst he
  obtain ⟨-,hlk,hf0⟩:=judge_zero hR.out
  have t7:((l.length:Int) != (a.c.keys.length:Int))=false:=by rw [bne_eq_false_iff_eq];omega
  have Hlk:=Lib.hid hlk
  clear hlk
  obtain ⟨hform,hval,hbar⟩:=check_ok hf0
  have he0:ef=0:=by rw [hC.out] at hf0;exact hf0
  subst he0
  have qfm:=ref_formed55 cs jcs a.c w7 ((h.below hb).more hb.size) (by omega) (by omega)
  rw [hform,hval,hbar] at qfm
  clear hf0 hval hbar
  unfold Cs.formed formedB at hform
  simp only [Bool.and_eq_true,decide_eq_true_eq] at hform
  obtain ⟨n2,-,hjn,-⟩:=hform
  have Hjn:=Lib.hid hjn
  obtain ⟨AK,ckk,k4,hRK⟩:=h.keys
  obtain ⟨bj,oj,cj,h5',hbj,hL⟩:=h.jobLoad (by omega)
  have hjn2:2≤a.c.jobs.length:=by omega
  clear hjn
  have LC:=load_case BC h.size
  go_upto_region 7 with fail
  apply wp_region_lit
  iterate 19 go_step
  refine wpList_loadG (by rfl) (by rfl) (by rfl) LC ?_
  simp only [Act.put,List.setIfInBounds_toArray,List.set_cons_zero,List.set_cons_succ]
  clear LC
  go_wp2_with fail
  (with_reducible refine qfm.mono ?_)
  rintro e1 w8 ⟨rfl,b8⟩
  clear qfm
  replace BC:=BC.below b8 BC.lt
  replace BN:=BN.below b8 BN.lt
  replace BV:=BV.below b8 BV.lt
  replace hb:=bCall hb b8
  clear b8
  have y4:=(BC.cell 4).trans k4
  have y5:=(BC.cell 5).trans h5'
  go_upto_region 10 with fail
  go_wp2_with fail
  clear y4 y5 t7
  go_loopw [14,73] (fun rt lg wr=>∃ (i:Nat) (r:Bool),i≤a.c.jobs.length∧rt = .bool r∧lg = .int .i64 i∧Below W.heap.size W wr∧Blk wr W.heap.size 33 cs∧Blk wr (W.heap.size+1) 47 hc∧Blk wr vb 37 #[.int .i64 x,.int .i64 y]∧Hid (r=true→a.okTo l i)) (fun _ lg _=>a.c.jobs.length - (intOf lg).toNat)
  case atStart=>exact ⟨0,true,Nat.zero_le _,rfl,rfl,hb,BC,BN,BV,Lib.hid (fun _ j hj=>absurd hj (by omega))⟩
  case round =>
    clear hb BC BN BV
    obtain ⟨i,r,hin,rfl,rfl,hb,BC,BN,BV,hok⟩:=hrel
    by_cases hlt:i<a.c.jobs.length
    · obtain ⟨jc,hjc⟩:∃ jc,Hid (jcs[i]?=some jc):=⟨_,Lib.hid (List.getElem?_eq_getElem (by rw [h.jlen];omega))⟩
      obtain ⟨a1,a2,a3,a4⟩:=h.job i jc hjc.out
      have hLc:=(hL i jc hjc.out).2
      have LJ:(Instr.loadAt 55 (.pointer (some ⟨bj,oj+i*49,none⟩))).run Tryz.prog wr = .ok (.agg jc) wr:=by
        have:=run_loadAt_mid (P:=Tryz.prog) wr bj (oj+i*49) 55 jc.toList _ (fun j u hj=>(hb.cell (p:=⟨bj,oj+i*49+j,none⟩) hbj).trans (hLc j u (by simpa using hj))) Tryz.underlying55 rfl (by rw [Array.length_toList,a1];exact job_info)
        rwa [Array.toArray_toList] at this
      have z0:(0:Int)≤(i:Int):=by omega
      have z1:(i:Int)<(a.c.jobs.length:Int):=by omega
      clear hLc
      go_upto_region 12 with fail
      apply wp_region_lit
      iterate 6 go_step
      refine wpList_loadG (by rfl) (by rfl) (by rfl) LJ ?_
      simp only [Act.put,List.setIfInBounds_toArray,List.set_cons_zero,List.set_cons_succ]
      clear LJ
      iterate 6 go_step
      refine wpList_storeG (by rfl) (by rfl) (by rfl) (by rfl) (store_newW (by rw [a1];exact job_info) (by rw [a1];rfl) a2) ?_
      simp only [Act.put]
      have BJ:=Blk.new wr 55 jc _ rfl
      replace BC:=BC.alloc (.cells jc 55)
      replace BN:=BN.alloc (.cells jc 55)
      replace BV:=BV.alloc (.cells jc 55)
      replace hb:=bAl hb (.cells jc 55)
      generalize wr.alloc (.cells jc 55)=w9 at *
      generalize wr.heap.size=jb at *
      go_upto_region 13 with fail
      cases r
      case false =>
        go_wp2_with fail
        exact ⟨⟨i+1,false,hlt,rfl,by go_num,hb,BC,BN,BV,Lib.hid (fun h=>by cases h)⟩,by simp [intOf];omega⟩
      have hok':=Lib.hid (hok.out rfl)
      have LJ:=load_job BJ a1
      have qe:=ref_empty jc (a.c.jobAt i).emptyB w9 (a3.lens3 a4)
      apply wp_region_lit
      iterate 6 go_step
      refine wpList_loadG (by rfl) (by rfl) (by rfl) LJ ?_
      simp only [Act.put,List.setIfInBounds_toArray,List.set_cons_zero,List.set_cons_succ]
      clear LJ
      cases hem:(a.c.jobAt i).emptyB
      case true =>
        rw [hem] at qe
        have hok2:Hid (a.okTo l (i+1)):=Lib.hid (okTo_next hok'.out (by unfold Ca.wrong;rw [hem];rfl))
        clear hem
        go_wp2_with fail
        (with_reducible refine qe.mono ?_)
        rintro e w10 ⟨rfl,b10⟩
        go_wp2_with fail
        exact ⟨⟨i+1,true,hlt,rfl,by go_num,bCall hb b10,BC.below b10 BC.lt,BN.below b10 BN.lt,BV.below b10 BV.lt,Lib.hid (fun _=>hok2.out)⟩,by simp [intOf];omega⟩
      rw [hem] at qe
      have Hem:=Lib.hid hem
      clear hem
      go_wp2_with fail
      (with_reducible refine qe.mono ?_)
      rintro e w10 ⟨rfl,b10⟩
      replace BC:=BC.below b10 BC.lt
      replace BN:=BN.below b10 BN.lt
      replace BV:=BV.below b10 BV.lt
      replace hb:=bCall hb b10
      clear b10 qe
      have LC:=load_case BC h.size
      have qh:=ref_hand56 a l Al cl cs jcs w10 ((CA.below hb).more hb.size) ((hl.below hb).more hb.size) (by omega) (by have:=Hlk.out;omega) (by have:=Hlk.out;have:=Hjn.out;omega) i (by have:=Hlk.out;have:=Hjn.out;omega)
      obtain ⟨rr,hrr⟩:∃ rr,Hid (rr=a.right l i):=⟨_,Lib.hid rfl⟩
      rw [←hrr.out] at qh
      dsimp only
      (refine ‹∀ (a:Act) (w:World),wpList _ _ _ _ a w→_› _ _ ?_)
      iterate 4 go_step
      refine wpList_loadG (by rfl) (by rfl) (by rfl) LC ?_
      simp only [Act.put,List.setIfInBounds_toArray,List.set_cons_zero,List.set_cons_succ]
      clear LC
      go_wp2_with fail
      (with_reducible refine qh.mono ?_)
      rintro e w11 ⟨rfl,b11⟩
      go_wp2_with fail
      exact ⟨⟨i+1,rr,hlt,rfl,by go_num,bCall hb b11,BC.below b11 BC.lt,BN.below b11 BN.lt,BV.below b11 BV.lt,Lib.hid (fun hr=>okTo_next hok'.out (by unfold Ca.wrong;rw [Hem.out,←hrr.out,hr];rfl))⟩,by simp [intOf];omega⟩
    · have hie:i=a.c.jobs.length:=by omega
      subst hie
      go_upto_if 90 with fail
      go_cut [14] (fun s14 wc=>Below W.heap.size W wc∧Blk wc W.heap.size 33 cs∧Blk wc (W.heap.size+1) 47 hc∧Blk wc vb 37 #[.int .i64 x,.int .i64 y])
      case first =>
        cases r
        · go_wp2_with fail
          go_meet
          exact ⟨hb,BC,BN,BV⟩
        · have hall:=judge_all hR.out hC.out (by have:=hok.out rfl;rw [Hjn.out,←Hlk.out] at this;exact this)
          have hall':=Lib.hid hall
          clear hall
          go_upto_region 17 with fail
          have BU:=Blk.new wr 37 #[.int .i64 (-1),.int .i64 why] _ rfl
          replace BC:=BC.alloc (.cells #[.int .i64 (-1),.int .i64 why] 37)
          replace BN:=BN.alloc (.cells #[.int .i64 (-1),.int .i64 why] 37)
          replace hb:=bAl hb (.cells #[.int .i64 (-1),.int .i64 why] 37)
          have hvu:vb<wr.heap.size:=BV.lt
          replace BV:=BV.alloc (.cells #[.int .i64 (-1),.int .i64 why] 37)
          generalize wr.alloc (.cells #[.int .i64 (-1),.int .i64 why] 37)=w9 at *
          generalize wr.heap.size=ub at *
          obtain ⟨u0,u1,z0,-⟩:=BU.two_
          obtain ⟨x0,x1,-,-⟩:=BV.two_
          by_cases h01:why=0∨why=1
          · obtain ⟨ey,ex⟩:=hall'.out
            rw [if_pos h01] at ex
            subst ex
            subst ey
            rcases h01 with h0 | h0
            · have t1:(y != 0)=false:=by rw [bne_eq_false_iff_eq];exact h0
              clear h0
              go_wp2_with fail
              go_meet
              exact ⟨hb,BC,BN,BV⟩
            · have t1:(y != 0)=true:=by rw [bne_iff_ne];omega
              have t2:(y != 1)=false:=by rw [bne_eq_false_iff_eq];exact h0
              clear h0
              go_wp2_with fail
              go_meet
              exact ⟨hb,BC,BN,BV⟩
          · have t1:(why != 0)=true:=by rw [bne_iff_ne];omega
            have t2:(why != 1)=true:=by rw [bne_iff_ne];omega
            clear u1
            go_upto_region 19 with fail
            replace BU:=BU.set_ 0 (.int .i64 ck)
            replace BC:=BC.far (p:=⟨ub,0,none⟩) (by show W.heap.size≠ub;omega) (.int .i64 ck)
            replace BN:=BN.far (p:=⟨ub,0,none⟩) (by show W.heap.size+1≠ub;omega) (.int .i64 ck)
            replace BV:=BV.far (p:=⟨ub,0,none⟩) (by show vb≠ub;omega) (.int .i64 ck)
            replace hb:=bSet hb (p:=⟨ub,0,none⟩) (by show W.heap.size≤ub;omega) (.int .i64 ck)
            clear u0 z0 x0 x1
            generalize w9.setCell ⟨ub,0,none⟩ (.int .i64 ck)=w10 at *
            have u0:w10.cell? ⟨ub,0,none⟩=some (.int .i64 ck):=BU.cell 0
            have u1:w10.cell? ⟨ub,1,none⟩=some (.int .i64 why):=BU.cell 1
            obtain ⟨x0,x1,-,-⟩:=BV.two_
            obtain ⟨ey,ex⟩:=hall'.out
            rw [if_neg h01] at ex
            subst ex
            subst ey
            clear h01
            go_wp2_with fail
            go_meet
            exact ⟨hb,BC,BN,BV⟩
      case rest =>
      clear hb BC BN BV hok
      obtain ⟨hb,BC,BN,BV⟩:=hcut
      have y5:=(BC.cell 5).trans h5'
      obtain ⟨U,hU⟩:∃ U,IntKind.u64.wrap n=U:=⟨_,rfl⟩
      have hU0:0≤U∧U<18446744073709551616:=by rw [←hU,IntKind.wrap_u64];omega
      have hL0:IntKind.u64.wrap ((a.c.jobs.length:Nat):Int)=(a.c.jobs.length:Int):=by rw [IntKind.wrap_u64];omega
      obtain ⟨m,hm⟩:∃ m:Nat,U.tmod (a.c.jobs.length:Int)=(m:Int):=⟨(U.tmod (a.c.jobs.length:Int)).toNat,by have:=Int.tmod_nonneg (a.c.jobs.length:Int) hU0.1;omega⟩
      have hml:m<a.c.jobs.length:=by
        have:=Int.tmod_lt_of_pos U (show (0:Int)<(a.c.jobs.length:Int) by omega)
        omega
      have hm3:IntKind.u64.wrap (m:Int)=(m:Int):=by rw [IntKind.wrap_u64];omega
      have hm4:IntKind.i64.wrap (m:Int)=(m:Int):=by rw [IntKind.wrap_i64];omega
      have hz:((a.c.jobs.length:Int)==0)=false:=by rw [beq_eq_false_iff_ne];omega
      have hzz:¬(a.c.jobs.length:Int)=0:=by omega
      go_upto_region 22 with fail
      obtain ⟨jc,hjc⟩:∃ jc,Hid (jcs[m]?=some jc):=⟨_,Lib.hid (List.getElem?_eq_getElem (by rw [h.jlen];omega))⟩
      obtain ⟨a1,a2,a3,a4⟩:=h.job m jc hjc.out
      have hLc:=(hL m jc hjc.out).2
      have LJ:(Instr.loadAt 55 (.pointer (some ⟨bj,oj+m*49,none⟩))).run Tryz.prog wc = .ok (.agg jc) wc:=by
        have:=run_loadAt_mid (P:=Tryz.prog) wc bj (oj+m*49) 55 jc.toList _ (fun j u hj=>(hb.cell (p:=⟨bj,oj+m*49+j,none⟩) hbj).trans (hLc j u (by simpa using hj))) Tryz.underlying55 rfl (by rw [Array.length_toList,a1];exact job_info)
        rwa [Array.toArray_toList] at this
      have z0:(0:Int)≤(m:Int):=by omega
      have z1:(m:Int)<(a.c.jobs.length:Int):=by omega
      obtain ⟨x0,x1,-,-⟩:=BV.two_
      clear hLc hm hm3 hm4 hz hzz hL0 hU0 hU
      by_cases hx0:x<0
      · go_wp2_with fail
        go_ret
        exact ⟨rfl,hb⟩
      by_cases hxm:(m:Int)≤x
      · go_wp2_with fail
        go_ret
        exact ⟨rfl,hb⟩
      have qe:=ref_empty jc (a.c.jobAt m).emptyB wc (a3.lens3 a4)
      have dx0:decide (x<0)=false:=decide_eq_false hx0
      have dxm:decide ((m:Int)≤x)=false:=decide_eq_false hxm
      apply wp_region_lit
      iterate 34 go_step
      refine wpList_loadG (by rfl) (by rfl) (by rfl) LJ ?_
      simp only [Act.put,List.setIfInBounds_toArray,List.set_cons_zero,List.set_cons_succ]
      clear LJ
      cases hem:(a.c.jobAt m).emptyB
      case true =>
        rw [hem] at qe
        clear hem
        go_wp2_with fail
        (with_reducible refine qe.mono ?_)
        rintro e w9 ⟨rfl,b9⟩
        go_wp2_with fail
        go_ret
        exact ⟨rfl,bCall hb b9⟩
      rw [hem] at qe
      clear hem
      go_wp2_with fail
      (with_reducible refine qe.mono ?_)
      rintro e w9 ⟨rfl,b9⟩
      replace BC:=BC.below b9 BC.lt
      replace BN:=BN.below b9 BN.lt
      replace BV:=BV.below b9 BV.lt
      replace hb:=bCall hb b9
      clear b9 qe x0 x1 y5
      have LC:=load_case BC h.size
      go_upto_region 24 with fail
      apply wp_region_lit
      refine wpList_loadG (by rfl) (by rfl) (by rfl) LC ?_
      simp only [Act.put,List.setIfInBounds_toArray,List.set_cons_zero,List.set_cons_succ]
      iterate 3 go_step
      refine wpList_storeG (by rfl) (by rfl) (by rfl) (by rfl) (store_newW (by rw [h.size];exact case_info') (by rw [h.size];rfl) h.one) ?_
      simp only [Act.put]
      have BX:=Blk.new w9 33 cs _ rfl
      have hvx:vb<w9.heap.size:=BV.lt
      have hnx:W.heap.size+1<w9.heap.size:=BN.lt
      replace BC:=BC.alloc (.cells cs 33)
      replace BN:=BN.alloc (.cells cs 33)
      replace BV:=BV.alloc (.cells cs 33)
      replace hb:=bAl hb (.cells cs 33)
      clear LC
      generalize w9.alloc (.cells cs 33)=w10 at *
      generalize w9.heap.size=xb at *
      obtain ⟨AJ,cj2,k5,hRJ⟩:=h.jobs
      have k5':=k5
      rw [h5'] at k5'
      injection k5' with k6
      injection k6 with k7 _ k8
      subst k7;subst k8
      have y5:=(BC.cell 5).trans h5'
      have hone:∀ u∈jcs.flatMap Array.toList,u.oneCell'=true:=fun u hu=>by
        obtain ⟨z,hz,hu⟩:=List.mem_flatMap.1 hu
        obtain ⟨i,hi⟩:=List.getElem?_of_mem hz
        exact (h.job i z hi).2.1 u hu
      have hxl:xb<w10.heap.size:=BX.lt
      have hl8:=BC.lt
      go_upto_region 25 with fail
      apply wp_region_lit
      iterate 9 go_step
      refine wpList_appendG (.tmp 130) (.tmp 132) 26 w10.heap.size 55 zJob 49 280 (.slice (some ⟨w10.heap.size,0,none⟩) 0 0) 0 [] (some ⟨bj,oj,none⟩) a.c.jobs.length cj W.heap.size (jcs.flatMap Array.toList) rfl rfl Tryz.underlying26 job_info4 rfl (by omega) rfl (own_empty w10 _ _ _ (Nat.le_refl _)) rfl
        ((hRJ.below hb).alloc (by omega) _) (fun e=>by cases e) hone (by unfold maxLen;omega) (by omega) (by simp) (fun v9 w11 own9 hg9=>?_)
      obtain ⟨g,cap,cur,rfl,hgb,BG,hnc,hcm,hcs,hct⟩:=own_some own9 (by omega)
      have b9:Below w10.heap.size w10 w11:=(bAl (bRefl w10) (.cells #[] 55)).trans (hg9.below (own_empty w10 55 49 w10.heap.size (Nat.le_refl _)) (by simp))
      replace BX:=BX.below b9 BX.lt
      replace BC:=BC.below b9 BC.lt
      replace BN:=BN.below b9 BN.lt
      replace BV:=BV.below b9 BV.lt
      replace hb:=bCall hb b9
      clear b9 own9 hg9 y5 hone
      have x5:=(BX.cell 5).trans h5'
      have z5:=BX.frozen 5
      go_upto_region 26 with fail
      clear x5 z5
      replace BX:=BX.set_ 5 (.slice (some ⟨g,0,none⟩) a.c.jobs.length cap)
      replace BC:=BC.far (p:=⟨xb,5,none⟩) (by show W.heap.size≠xb;omega) (.slice (some ⟨g,0,none⟩) a.c.jobs.length cap)
      replace BN:=BN.far (p:=⟨xb,5,none⟩) (by show W.heap.size+1≠xb;omega) (.slice (some ⟨g,0,none⟩) a.c.jobs.length cap)
      replace BV:=BV.far (p:=⟨xb,5,none⟩) (by show vb≠xb;omega) (.slice (some ⟨g,0,none⟩) a.c.jobs.length cap)
      replace BG:=BG.far (p:=⟨xb,5,none⟩) (by show g≠xb;omega) (.slice (some ⟨g,0,none⟩) a.c.jobs.length cap)
      replace hb:=bSet hb (p:=⟨xb,5,none⟩) (by show W.heap.size≤xb;omega) (.slice (some ⟨g,0,none⟩) a.c.jobs.length cap)
      generalize w11.setCell ⟨xb,5,none⟩ (.slice (some ⟨g,0,none⟩) a.c.jobs.length cap)=w12 at *
      have hX5:(cs.setIfInBounds 5 (.slice (some ⟨g,0,none⟩) a.c.jobs.length cap))[5]?=some (.slice (some ⟨g,0,none⟩) a.c.jobs.length cap):=set_eq (by rw [h.size];omega)
      have hXs:(cs.setIfInBounds 5 (.slice (some ⟨g,0,none⟩) a.c.jobs.length cap)).size=15:=by rw [Array.size_setIfInBounds];exact h.size
      have x5:=(BX.cell 5).trans hX5
      have LH:=load_blk BN Tryz.underlying47 rfl (by rw [hsz];exact hand_info)
      have hm49:m*49+7+42≤cap*49:=by have:=Nat.mul_le_mul_right 49 (show m+1≤cap by omega);omega
      apply wp_region_lit
      iterate 9 go_step
      refine wpList_loadG (by rfl) (by rfl) (by rfl) LH ?_
      simp only [Act.put,List.setIfInBounds_toArray,List.set_cons_zero,List.set_cons_succ]
      iterate 6 go_step
      refine wpList_storeG (q := .pointer (some ⟨g,m*49+7,none⟩)) (by rfl) (by rfl) (by rfl) (by rfl) (store_at BG (by rw [hsz];exact hand_info) (by rw [hsz,hcs];exact hm49) hhone) ?_
      simp only [Act.put]
      rw [hsz]
      have hj49:∀ z∈jcs,z.toList.length=49:=fun z hz=>by
        obtain ⟨i,hi⟩:=List.getElem?_of_mem hz
        simpa using (h.job i z hi).1
      have hcl:hc.toList=hd.cl:=by rw [hhc.out]
      have hct':=cells_hand hcs hnc hct hj49 h.jlen hjc.out hdo
      rw [←hcl] at hct'
      have hcs':(cur.toList.take (m*49+7)++hc.toList++cur.toList.drop (m*49+7+42)).toArray.size=cap*49:=by
        rw [List.size_toArray,List.length_append,List.length_append,List.length_take,List.length_drop,Array.length_toList,Array.length_toList,hsz,hcs]
        omega
      have BG':=BG.row (cur.toList.take (m*49+7)++hc.toList++cur.toList.drop (m*49+7+42)).toArray
      replace hct':(cur.toList.take (m*49+7)++hc.toList++cur.toList.drop (m*49+7+42)).toArray.toList.take (a.c.jobs.length*49)=(jcs.set m (withHand jc hd)).flatMap Array.toList:=by rw [List.toList_toArray];exact hct'
      generalize (cur.toList.take (m*49+7)++hc.toList++cur.toList.drop (m*49+7+42)).toArray=cur' at *
      replace BX:=BX.farRow (g':=g) (by omega) cur'
      replace BV:=BV.farRow (g':=g) (by omega) cur'
      replace hb:=below_setRow hb (show W.heap.size≤g by omega) cur'
      clear BG x5 LH BC BN
      generalize w12.setRow g cur'=w13 at *
      have hR49:=Rd.of_blk BG' hct' (by
        rw [←hct',List.length_take,Array.length_toList,hcs',Nat.min_eq_left]
        exact Nat.mul_le_mul_right 49 hnc)
      have CX:=((CA.below hb).more hb.size).setHand (cj:=cap) hjc.out hdo hR49
      have q:=hP.of CX rfl ((hl.below hb).more hb.size) (by omega) hlc hlc2 (hG.below hb) (judge_other (a:=a) (i:=m) rfl rfl rfl rfl (fun j hj=>setHand_at hj) hR.out (by omega) (by omega))
      have LX:=load_case BX hXs
      clear CX hR49 BG' hct' hcs'
      go_upto_region 27 with fail
      apply wp_region_lit
      iterate 3 go_step
      refine wpList_loadG (by rfl) (by rfl) (by rfl) LX ?_
      simp only [Act.put,List.setIfInBounds_toArray,List.set_cons_zero,List.set_cons_succ]
      clear LX
      go_wp2_with fail
      (with_reducible refine q.mono ?_)
      rintro e w14 ⟨rfl,b14⟩
      clear q
      replace BV:=BV.below b14 BV.lt
      replace hb:=bCall hb b14
      clear b14 BX
      go_upto_region 28 with fail
      have BU:=Blk.new w14 37 #[.int .i64 x,.int .i64 y] _ rfl
      replace BV:=BV.alloc (.cells #[.int .i64 x,.int .i64 y] 37)
      replace hb:=bAl hb (.cells #[.int .i64 x,.int .i64 y] 37)
      generalize w14.alloc (.cells #[.int .i64 x,.int .i64 y] 37)=w15 at *
      obtain ⟨x0,x1,-,-⟩:=BV.two_
      obtain ⟨u0,u1,-,-⟩:=BU.two_
      go_wp2_with fail
      go_ret
      exact ⟨rfl,hb⟩
end Go.Proofs.YtgkpomdegomgiaaGreatDoor

/- frankinglaw56.come, walked: the batch that comes to an office, and the letter's place in it, where nothing is wrong before. -/
import Derived.Test.YtgkpomdegomgiaaGreatDoorMbu
import Derived.Test.YtgkpomdegomgiaaGreatDoorMbd
import Derived.Test.YtgkpomdegomgiaaGreatDoorMau
import Derived.Test.YtgkpomdegomgiaaGreatDoorMak
import Derived.Test.YtgkpomdegomgiaaGreatDoorMao
set_option maxRecDepth 1000000
set_option maxHeartbeats 16000000
namespace Go.Proofs.YtgkpomdegomgiaaGreatDoor
open Go.RowKit
def Cs.Goes (c:Cs) (K:Nat→Nat) (i:Nat):Prop:=K 0=c.place.toNat∧∀ j,j<i→((c.jobAt j).emptyB=true∧K (j+1)=K j)∨((c.jobAt j).emptyB=false∧c.whyAt j (K j)=0∧K (j+1)=(c.stepAt j).right.at_.toNat)
theorem aw_come (cs:Array Value) (jcs:List (Array Value)) (c:Cs) (W:World) (h:CaseAt W W.heap.size cs jcs c) (hfew:c.jobs.length≤1000) (hkl:c.keys.length≤12) (hf:c.formed=true) (hvd:c.valid=true) (hsea:c.sealed=true)
    (K:Nat→Nat) (i0:Nat) (hi0:i0≤c.keys.length) (hK:c.Goes K i0) :
    Calls Tryz.prog 17 #[.agg cs,.int .i64 (i0:Nat)] W (fun e w'=>∃ A cc,e = .returned (.tuple #[.slice A (c.inAt i0).length cc,.int .i64 (K i0:Nat),.bool true])∧Below W.heap.size W w'∧Rd w' w'.heap.size 6 A (c.inAt i0).length ((c.inAt i0).flatMap Ltr.cl)):=by
  have B2:=Blk.new W 33 cs _ rfl
  have hb2:=bAl (bRefl W) (.cells cs 33)
  have hkv:∀ k∈c.keys,validB k=true:=List.all_eq_true.1 hvd
  have hfd:formedB c.keys.length c.jobs.length c.steps.length c.first c.place=true:=hf
  unfold formedB at hfd
  simp only [Bool.and_eq_true,decide_eq_true_eq] at hfd
  obtain ⟨n2,n9,hjn,-,-,hf64,-,hpl0,hpl⟩:=hfd
  obtain ⟨p0,hp0⟩:∃ p0:Nat,c.place=p0:=⟨c.place.toNat,by omega⟩
  have hp':c.place.toNat=p0:=by omega
  have hpl1:p0<c.first.length:=by omega
  obtain ⟨A3,c3,h3,r3,l3,l3'⟩:=h.first
  obtain ⟨A4,c4,h4,r4⟩:=h.keys
  obtain ⟨At,ct,h13,r13⟩:=h.steps
  have h6:=h.place
  rw [hp0] at h6
  have Hp':=Lib.hid hp'
  have Hjn:=Lib.hid hjn
  have HK:=Lib.hid hK
  have Hse:=Lib.hid hsea
  have hK0:Hid (K 0=p0):=Lib.hid (by rw [←hp'];exact hK.1)
  clear hf hvd hp0 hp' hpl0 hpl hjn hK hsea
  have hso:=h.stepOk
  go_enter Tryz.func17,Tryz.ntmps17
  go_upto_region 1 with fail
  generalize W.alloc (.cells cs 33)=w2 at *
  have k4:=(B2.cell 4).trans h4
  have qr:=ref_rest A4 c.keys.length c4 c.keys w2 ((r4.below hb2).more hb2.size) (by omega) hkv
  go_wp2_with fail
  (with_reducible refine qr.mono ?_)
  rintro e w3 ⟨b3,g,rfl,hgw,BG⟩
  have hb3:=bCall hb2 b3
  have B3:=B2.below b3 B2.lt
  clear qr k4 hb2 b3 B2
  have hr0:=(restAt_valid hkv (Nat.zero_le _)).2
  go_upto_region 2 with fail
  have KS:Hid (∀ w',Below w3.heap.size w3 w'→_):=Lib.hid (fun w' b=>and7 (((BG.below b BG.lt).cell 0).trans (show (ints (restL c.keys)).toArray[0]?=some (.int .i64 (c.restAt 0)) by rw [List.getElem?_toArray];exact ints_at hr0))
    (((B3.below b B3.lt).cell 7).trans h.w0) (((B3.below b B3.lt).cell 8).trans h.w1) (((B3.below b B3.lt).cell 9).trans h.w2) (((B3.below b B3.lt).cell 10).trans h.r0) (((B3.below b B3.lt).cell 11).trans h.r1) (((B3.below b B3.lt).cell 12).trans h.r2))
  obtain ⟨sv,hsv⟩:∃ sv,sv=sealV (c.restAt 0) c.words.x c.words.y c.words.z c.r0 c.r1 c.r2:=⟨_,rfl⟩
  obtain ⟨se,hse⟩:∃ se,se=sealE (c.restAt 0) c.words.x c.words.y c.words.z:=⟨_,rfl⟩
  have q:Hid (∀ w,Calls Tryz.prog 46 #[.int .i64 (c.restAt 0),.agg #[.int .i64 c.words.x,.int .i64 c.words.y,.int .i64 c.words.z],.agg #[.int .i64 c.r0,.int .i64 c.r1,.int .i64 c.r2]] w (Ret (.tuple #[.agg #[.int .i64 sv.a0,.int .i64 sv.b0,.int .i64 sv.a1,.int .i64 sv.b1,.int .i64 sv.a2,.int .i64 sv.b2],.int .i64 se]) w)):=by
    intro w
    rw [hsv,hse]
    exact ref_seal _ _ _ _ _ _ _ w
  have hsl:Hid (c.sealed=(decide (se=0)&&sv.eqB (c.first.getD p0 zeroL))):=by
    show _=_
    rw [hsv,hse];unfold Cs.sealed;rw [Hp'.out]
  clear hsv hse hr0
  have i0:(0:Int)<(c.keys.length:Int)+1:=by omega
  go_cut [9,10] from 21 (fun s9 s10 wc=>∃ lb,s9 = .pointer (some ⟨lb,0,none⟩)∧s10 = .int .i64 se∧Blk wc lb 70 #[.int .i64 sv.a0,.int .i64 sv.b0,.int .i64 sv.a1,.int .i64 sv.b1,.int .i64 sv.a2,.int .i64 sv.b2]∧Below w3.heap.size w3 wc)
  case first =>
    go_region_held3 (fun w'=>w'.cell? ⟨g,0,none⟩=some (.int .i64 (c.restAt 0))∧w'.cell? ⟨W.heap.size,7,none⟩=some (.int .i64 c.words.x)∧w'.cell? ⟨W.heap.size,8,none⟩=some (.int .i64 c.words.y)∧w'.cell? ⟨W.heap.size,9,none⟩=some (.int .i64 c.words.z)∧w'.cell? ⟨W.heap.size,10,none⟩=some (.int .i64 c.r0)∧w'.cell? ⟨W.heap.size,11,none⟩=some (.int .i64 c.r1)∧w'.cell? ⟨W.heap.size,12,none⟩=some (.int .i64 c.r2))
      (exact KS.out _ (by repeat (first | with_reducible exact B7 | with_reducible exact bRefl _ | with_reducible refine bAl ?_ _ | with_reducible refine bDr ?_ | with_reducible refine bSet ?_ (by exact Nat.le_refl _) _)))
      (first
      | (go_simp;go_at_call 46;(with_reducible refine (q.out _).mono ?_);rintro e w7 ⟨rfl,b7⟩;have B7:Below w3.heap.size w3 w7:=bCall (by repeat (first | exact bRefl _ | refine bAl ?_ _ | refine bDr ?_)) b7;(try (have BZ:Blk w7 w3.heap.size 70 #[.int .i64 0,.int .i64 0,.int .i64 0,.int .i64 0,.int .i64 0,.int .i64 0]:=Blk.below (by first | exact Blk.new _ _ _ _ rfl | exact Blk.dr (Blk.new _ _ _ _ rfl)) b7 (by simp);obtain ⟨k0,k1,k2,k3,k4,k5⟩:=BZ.six;obtain ⟨z0,z1,z2,z3,z4,z5⟩:=BZ.six_free))))
    all_goals
      go_wp2_with fail
      go_meet
      first
        | (with_reducible refine ⟨_,rfl,rfl,Blk.new _ _ _ _ rfl,bAl B7 _⟩;done)
        | exact ⟨_,rfl,rfl,BZ.set6 (.int .i64 sv.a0) (.int .i64 sv.b0) (.int .i64 sv.a1) (.int .i64 sv.b1) (.int .i64 sv.a2) (.int .i64 sv.b2),bSet6 B7 (Nat.le_refl _) (.int .i64 sv.a0) (.int .i64 sv.b0) (.int .i64 sv.a1) (.int .i64 sv.b1) (.int .i64 sv.a2) (.int .i64 sv.b2)⟩
  case rest =>
    obtain ⟨lb,rfl,rfl,BS,b8⟩:=hcut
    have hbc:=bCall hb3 b8
    have BC:=B3.below b8 B3.lt
    have BG8:=BG.below b8 BG.lt
    clear b8 KS q B3 BG hb3
    obtain ⟨X0,hX0⟩:∃ X,Hid (c.first[p0]?=some X):=⟨_,Lib.hid (List.getElem?_eq_getElem hpl1)⟩
    have hsl2:Hid (c.sealed=(decide (se=0)&&sv.eqB X0)):=by
      show _=_
      rw [hsl.out,List.getD_eq_getElem?_getD,hX0.out];rfl
    clear hsl
    rw [Hse.out] at hsl2
    have hsp:=hsl2.out.symm
    rw [Bool.and_eq_true,decide_eq_true_eq] at hsp
    obtain ⟨hse,hr⟩:=hsp
    subst hse
    clear hsl2
    have hne':=run_neS sv X0
    unfold Ltr.agg at hne'
    obtain ⟨b,off,rfl,hbb,o0,o1,o2,o3,o4,o5⟩:=Ltr_at (r3.below hbc) hpl1 hX0.out
    obtain ⟨s0,s1,s2,s3,s4,s5⟩:=BS.six
    have y3:=(BC.cell 3).trans h3
    have y6:=(BC.cell 6).trans h6
    have i1:(0:Int)≤(p0:Int):=by omega
    have i2:(p0:Int)<(c.first.length:Int):=by omega
    rw [hr] at hne'
    clear hr
    go_upto_region 4 with fail
    go_quiet (fail)
    have BC9:Blk (wc.drewN nq) W.heap.size 33 cs:=BC
    have BG9:Blk (wc.drewN nq) g 3 (ints (restL c.keys)).toArray:=BG8
    have hb9:=bDrN hbc nq
    clear s0 s1 s2 s3 s4 s5 o0 o1 o2 o3 o4 o5 y3 y6 hne' BS BC BG8 hbc i0
    generalize wc.drewN nq=w9 at *
    go_wp2_with fail
    go_loopw [5,49] (fun kk ll wr=>∃ (i p:Nat),i≤i0∧ll = .int .i64 i∧kk = .int .i64 p∧Hid (p=K i)∧Below W.heap.size W wr∧Blk wr W.heap.size 33 cs∧Blk wr g 3 (ints (restL c.keys)).toArray) (fun _ ll _=>i0 - (intOf ll).toNat)
    case atStart=>exact ⟨0,p0,Nat.zero_le _,rfl,rfl,Lib.hid hK0.out.symm,hb9,BC9,BG9⟩
    case round =>
      clear hb9 BC9 BG9 i1 i2
      obtain ⟨i,p,hin,rfl,rfl,hp,hb,BC,BG⟩:=hrel
      by_cases hlt:i<i0
      · have hlk:i<c.keys.length:=by omega
        have hmj:i<c.jobs.length:=by have:=Hjn.out;omega
        have hH:=(h.below hb).more hb.size
        obtain ⟨bj,oj,cj,h5',hbj,hL⟩:=hH.jobLoad (by omega)
        have k5:=(BC.cell 5).trans h5'
        obtain ⟨jc,hjc⟩:∃ jc,Hid (jcs[i]?=some jc):=⟨_,Lib.hid (List.getElem?_eq_getElem (by rw [h.jlen];omega))⟩
        obtain ⟨a1,a2,a3,a4⟩:=h.job i jc hjc.out
        have LJ:=(hL i jc hjc.out).1
        have hLL:∀ w',Below wr.heap.size wr w'→(Instr.loadAt 55 (.pointer (some ⟨bj,oj+i*49,none⟩))).run Tryz.prog w' = .ok (.agg jc) w':=fun w' b=>by
          have hc:=(hL i jc hjc.out).2
          have:=run_loadAt_mid (P:=Tryz.prog) w' bj (oj+i*49) 55 jc.toList _ (fun j u hj=>(b.cell (p:=⟨bj,oj+i*49+j,none⟩) hbj).trans (hc j u (by simpa using hj))) Tryz.underlying55 rfl (by rw [Array.length_toList,a1];exact job_info)
          rwa [Array.toArray_toList] at this
        have qe:=fun w=>ref_empty jc (c.jobAt i).emptyB w (a3.lens3 a4)
        have z0:(0:Int)≤(i:Int):=by omega
        have z1:(i:Int)<(c.jobs.length:Int):=by omega
        have z2:(i:Int)<(i0:Int):=by omega
        have i2k:(i:Int)<(c.keys.length:Int):=by omega
        rcases HK.out.2 i hlt with ⟨hem,hk1⟩ | ⟨hem,hwhy,hk1⟩
        · have hp2:=Lib.hid (hp.out.trans hk1.symm)
          rw [hem] at qe
          clear hem hL hk1 hp
          go_upto_region 9 with fail
          apply wp_region_lit
          iterate 12 go_step
          refine wpList_loadG (by rfl) (by rfl) (by rfl) LJ ?_
          simp only [Act.put,List.setIfInBounds_toArray,List.set_cons_zero,List.set_cons_succ]
          go_wp2_with fail
          (with_reducible refine (qe _).mono ?_)
          rintro e w2 ⟨rfl,b2⟩
          go_wp2_with fail
          exact ⟨⟨i+1,p,by omega,by go_num,rfl,hp2,bCall hb b2,BC.below b2 BC.lt,BG.below b2 BG.lt⟩,by simp [intOf];omega⟩
        · rw [←hp.out] at hwhy
          rw [hem] at qe
          obtain ⟨bk,ok,x,eK,hbk,hx0,d0⟩:=key_at (r4.below hb) hlk rfl
          have hkx:x=c.keyAt i:=by unfold Cs.keyAt;rw [List.getD_eq_getElem?_getD,hx0];rfl
          obtain ⟨hrv,hri⟩:=restAt_valid hkv (show i+1≤c.keys.length by omega)
          have haw:=after_why (c:=c) (i:=i) (p:=p) hrv
          obtain ⟨rs,hrs⟩:∃ rs,rs=c.restAt (i+1):=⟨_,rfl⟩
          obtain ⟨U,hU⟩:∃ U,U=afterP (c.keyAt i) (c.restAt (i+1)) (c.jobAt i) (c.stepAt i) (c.inAt i) p:=⟨_,rfl⟩
          have qb:∀ w,Below W.heap.size W w→Calls Tryz.prog 39 #[.agg cs,.int .i64 (i:Nat)] w (RetLs (c.inAt i) w):=fun w hw=>ref_batch cs jcs c i w ((h.below hw).more hw.size) (by omega) hfew
          have qa:∀ w (A:Option Addr) (cc:Nat),Below W.heap.size W w→Rd w w.heap.size 6 A (c.inAt i).length ((c.inAt i).flatMap Ltr.cl)→Calls Tryz.prog 47 #[.int .i64 x,.int .i64 rs,.agg jc,.slice At c.steps.length ct,.int .i64 (i:Nat),.slice A (c.inAt i).length cc,.int .i64 (p:Nat)] w (Ret (.tuple #[.int .i64 U.1,.int .i64 U.2]) w):=fun w A cc hw hr=>by
            rw [hkx,hrs,hU]
            exact ref_after (c.keyAt i) (c.restAt (i+1)) jc (c.jobAt i) c.steps (c.inAt i) i p At A ct cc w a1 ((a3.below hw).more hw.size) ((r13.below hw).more hw.size) hso hr
          rw [←hU] at haw
          have KS:Hid (∀ w',Below wr.heap.size wr w'→(Instr.loadAt 55 (.pointer (some ⟨bj,oj+i*49,none⟩))).run Tryz.prog w' = .ok (.agg jc) w'∧(Instr.loadAt 33 (.pointer (some ⟨W.heap.size,0,none⟩))).run Tryz.prog w' = .ok (.agg cs) w'∧w'.cell? ⟨W.heap.size,4,none⟩=some (.slice (some ⟨bk,ok,none⟩) c.keys.length c4)∧w'.cell? ⟨bk,ok+i,none⟩=some (.int .i64 x)∧w'.cell? ⟨g,i+1,none⟩=some (.int .i64 rs)∧w'.cell? ⟨W.heap.size,5,none⟩=some (.slice (some ⟨bj,oj,none⟩) c.jobs.length cj)∧w'.cell? ⟨W.heap.size,13,none⟩=some (.slice At c.steps.length ct)):=Lib.hid (fun w' b=>⟨hLL w' b,load_case (BC.below b BC.lt) h.size,((BC.below b BC.lt).cell 4).trans (h4.trans (by rw [eK])),(b.cell (p:=⟨bk,ok+i,none⟩) (by have:=hb.size;show bk<_;omega)).trans d0,((BG.below b BG.lt).cell (i+1)).trans (by rw [List.getElem?_toArray,hrs];exact ints_at hri),((BC.below b BC.lt).cell 5).trans h5',((BC.below b BC.lt).cell 13).trans h13⟩)
          have HAW:=Lib.hid haw
          have f1:IntKind.i64.wrap ((i:Int)+1)=(i:Int)+1:=by rw [IntKind.wrap_i64];omega
          have f2:((i:Int)+1).toNat=i+1:=by omega
          have f3:(0:Int)≤(i:Int)+1:=by omega
          have f4:(i:Int)+1<(c.keys.length:Int)+1:=by omega
          clear hem hL haw hU hrs hkx hx0 hri d0 eK
          go_upto_region 9 with fail
          apply wp_region_lit
          iterate 12 go_step
          refine wpList_loadG (by rfl) (by rfl) (by rfl) LJ ?_
          simp only [Act.put,List.setIfInBounds_toArray,List.set_cons_zero,List.set_cons_succ]
          go_wp2_with fail
          (with_reducible refine (qe _).mono ?_)
          rintro e w2 ⟨rfl,b2⟩
          have hb2:=bCall hb b2
          have BC2:=BC.below b2 BC.lt
          have BG2:=BG.below b2 BG.lt
          have KS2:Hid (∀ w',Below w2.heap.size w2 w'→(Instr.loadAt 55 (.pointer (some ⟨bj,oj+i*49,none⟩))).run Tryz.prog w' = .ok (.agg jc) w'∧(Instr.loadAt 33 (.pointer (some ⟨W.heap.size,0,none⟩))).run Tryz.prog w' = .ok (.agg cs) w'∧w'.cell? ⟨W.heap.size,4,none⟩=some (.slice (some ⟨bk,ok,none⟩) c.keys.length c4)∧w'.cell? ⟨bk,ok+i,none⟩=some (.int .i64 x)∧w'.cell? ⟨g,i+1,none⟩=some (.int .i64 rs)∧w'.cell? ⟨W.heap.size,5,none⟩=some (.slice (some ⟨bj,oj,none⟩) c.jobs.length cj)∧w'.cell? ⟨W.heap.size,13,none⟩=some (.slice At c.steps.length ct)):=Lib.hid (fun w' b=>KS.out w' (bCall b2 b))
          clear KS LJ qe hb BC BG k5
          go_upto_region 10 with fail
          refine wp_region_schB (f:=27) KS2 [(0,1),(1,2),(2,1),(3,1),(4,2),(5,1),(6,1),(7,1),(8,1),(9,2),(10,1),(11,2),(12,1),(13,1),(14,2),(15,1),(16,1),(17,2),(18,1),(19,2),(20,1),(22,1),(21,0),(23,0),(24,1),(25,1),(26,1),(27,3),(28,3)] ?_
          simp only [pickS,List.getElem?_cons_zero,List.getElem?_cons_succ]
          refine wpSched_t ?_
          refine wpSched_r ?_
          refine wpSched_t ?_
          refine wpSched_t ?_
          refine wpSched_r ?_
          refine wpSched_t ?_
          refine wpSched_t ?_
          refine wpSched_t ?_
          refine wpSched_t ?_
          refine wpSched_r ?_
          refine wpSched_t ?_
          refine wpSched_r ?_
          refine wpSched_t ?_
          refine wpSched_t ?_
          refine wpSched_r (v:=?v1) (hv:=?h1) ?_;case h1=>(intro w hSw;(first | refine (exec_load rfl rfl hSw).trans ?_ | refine (exec_load rfl rfl hSw.1).trans ?_ | refine (exec_load rfl rfl hSw.2.1).trans ?_ | refine (exec_load rfl rfl hSw.2.2.1).trans ?_ | refine (exec_load rfl rfl hSw.2).trans ?_ | refine (exec_load rfl rfl hSw.2.2).trans ?_);with_reducible rfl)
          refine wpSched_t ?_
          refine wpSched_t ?_
          refine wpSched_r ?_
          refine wpSched_t ?_
          refine wpSched_r (v:=?v2) (hv:=?h2) ?_;case h2=>(intro w hSw;(first | refine (exec_load rfl rfl hSw).trans ?_ | refine (exec_load rfl rfl hSw.1).trans ?_ | refine (exec_load rfl rfl hSw.2.1).trans ?_ | refine (exec_load rfl rfl hSw.2.2.1).trans ?_ | refine (exec_load rfl rfl hSw.2).trans ?_ | refine (exec_load rfl rfl hSw.2.2).trans ?_);with_reducible rfl)
          refine wpSched_t ?_
          refine wpSched_t ?_
          refine wpSched_force (fun K hK=>?_)
          go_simp;(first | (go_at_call 39;(with_reducible refine (qb _ (bDr hb2)).mono ?_);rintro e w7 ⟨A7,c7,rfl,b7,hR7,_,_⟩;have B7:Below w2.heap.size w2 w7:=bCall (bDr (bRefl _)) b7) | (go_at_call 47;(with_reducible refine (qa _ _ _ (bCall hb2 B7) hR7).mono ?_);rintro e w8 ⟨rfl,b8⟩;have B8:Below w2.heap.size w2 w8:=bCall B7 b8) | skip)
          refine shut_go hK KS2 ?_
          clear hK K
          refine wpSched_force (fun K hK=>?_)
          go_simp;(first | (go_at_call 39;(with_reducible refine (qb _ (bDr hb2)).mono ?_);rintro e w7 ⟨A7,c7,rfl,b7,hR7,_,_⟩;have B7:Below w2.heap.size w2 w7:=bCall (bDr (bRefl _)) b7) | (go_at_call 47;(with_reducible refine (qa _ _ _ (bCall hb2 B7) hR7).mono ?_);rintro e w8 ⟨rfl,b8⟩;have B8:Below w2.heap.size w2 w8:=bCall B7 b8) | skip)
          refine shut_go hK KS2 ?_
          clear hK K
          refine wpSched_t ?_
          refine wpSched_t ?_
          refine wpSched_t ?_
          refine wpSched_last ?_
          first | simp only [List.map_nil] | simp only [List.map_cons,List.map_nil]
          have hb8:=bCall hb2 B8
          have BC8:=BC2.below B8 BC2.lt
          have BG8:=BG2.below B8 BG2.lt
          clear KS2 B7 B8 hb2 BC2 BG2 qa qb
          have hz:U.2=0:=by rw [HAW.out.1];exact hwhy
          have g1:(U.2 != 0)=false:=by rw [bne_eq_false_iff_eq];exact hz
          have hU1:U.1=(((c.stepAt i).right.at_.toNat:Nat):Int):=HAW.out.2 hwhy
          rw [hU1]
          generalize U.2=u2 at *
          replace hk1:=Lib.hid hk1
          clear hz hwhy hU1 HAW
          go_wp2_with fail
          refine NoPanic.normal ?_
          go_wp2_with fail
          exact ⟨⟨i+1,_,by omega,by go_num,rfl,Lib.hid hk1.out.symm,hb8,BC8,BG8⟩,by simp [intOf];omega⟩
      · have hie:i=i0:=by omega
        subst hie
        have hH:=(h.below hb).more hb.size
        have hjl:=Hjn.out
        obtain ⟨bj,oj,cj,h5',hbj,hL⟩:=hH.jobLoad (by omega)
        have k5:=(BC.cell 5).trans h5'
        have e0:¬(i:Int)<(i:Int):=by omega
        by_cases hij:i<c.jobs.length
        · have e1:(i:Int)<(c.jobs.length:Int):=by omega
          have qb:=ref_batch cs jcs c i wr hH (by omega) hfew
          have LC:=load_case BC h.size
          clear hL HK
          go_upto_region 16 with fail
          apply wp_region_lit
          refine wpList_loadG (by rfl) (by rfl) (by rfl) LC ?_
          simp only [Act.put,List.setIfInBounds_toArray,List.set_cons_zero,List.set_cons_succ]
          go_wp2_with fail
          (with_reducible refine qb.mono ?_)
          rintro e w2 ⟨A2,c2,rfl,b2,hR2,_,_⟩
          go_wp2_with fail
          go_ret3
          exact ⟨_,_,by rw [←hp.out];rfl,bCall hb b2,hR2⟩
        · obtain ⟨m,hm⟩:∃ m,i=m+1:=⟨i - 1,by omega⟩
          have e1:¬(i:Int)<(c.jobs.length:Int):=by omega
          have f1:IntKind.i64.wrap ((i:Int) - 1)=(m:Int):=by rw [IntKind.wrap_i64];omega
          have g0:(0:Int)≤(m:Int):=by omega
          have g1:(m:Int)<(c.jobs.length:Int):=by omega
          have hmj:m<c.jobs.length:=by omega
          obtain ⟨jc,hjc⟩:∃ jc,Hid (jcs[m]?=some jc):=⟨_,Lib.hid (List.getElem?_eq_getElem (by rw [h.jlen];omega))⟩
          obtain ⟨a1,a2,a3,a4⟩:=h.job m jc hjc.out
          obtain ⟨LJ,hLc⟩:=hL m jc hjc.out
          have hin1:c.inAt i=nextL (c.jobAt m):=by rw [hm];rfl
          obtain ⟨A0,n0,u0,hR0⟩:=a3.h0
          obtain ⟨A4',n4,u4,hR4⟩:=a3.h4
          have hin:Hid (c.inAt i=nextL (c.jobAt m)):=Lib.hid hin1
          have hmi:=Lib.hid hm
          clear hL HK hin1 hm hfew hij hjl
          go_upto_region 17 with fail
          apply wp_region_lit
          iterate 15 go_step
          refine wpList_loadG (by rfl) (by rfl) (by rfl) LJ ?_
          simp only [Act.put,List.setIfInBounds_toArray,List.set_cons_zero,List.set_cons_succ]
          iterate 3 go_step
          refine wpList_storeG (by rfl) (by rfl) (by rfl) (by rfl) (store_newW (by rw [a1];exact job_info) (by rw [a1];rfl) a2) ?_
          simp only [Act.put]
          have BJ:=Blk.new wr 55 jc _ rfl
          have BC5:=BC.alloc (.cells jc 55)
          have hb5:=bAl hb (.cells jc 55)
          have x0:=((bAl (bRefl wr) (.cells jc 55)).cell (p:=⟨bj,oj+m*49+0,none⟩) hbj).trans (hLc 0 _ u0)
          have h5b:=(BC5.cell 5).trans h5'
          clear BC hb LJ hLc k5 BG
          generalize wr.alloc (.cells jc 55)=w5 at *
          generalize wr.heap.size=jb at *
          have LJ:=load_job BJ a1
          have qe:=ref_empty jc (c.jobAt m).emptyB w5 (a3.lens3 a4)
          go_upto_region 18 with fail
          apply wp_region_lit
          refine wpList_loadG (by rfl) (by rfl) (by rfl) LJ ?_
          simp only [Act.put,List.setIfInBounds_toArray,List.set_cons_zero,List.set_cons_succ]
          cases hem:(c.jobAt m).emptyB
          · rw [hem] at qe
            go_wp2_with fail
            (with_reducible refine qe.mono ?_)
            rintro e w6 ⟨rfl,b6⟩
            have y4:=((BJ.below b6 BJ.lt).cell 4).trans u4
            have hb6:=bCall hb5 b6
            have hR6:=(hR4.1.below hb6).more hb6.size
            have hn:Hid (c.inAt i=(c.jobAt m).mo):=Lib.hid (by rw [hin.out];unfold nextL;rw [hem];rfl)
            clear hin qe hem
            go_wp2_with fail
            go_ret3
            exact ⟨_,_,by rw [←hp.out,hn.out];rfl,hb6,by rw [hn.out];exact hR6⟩
          · rw [hem] at qe
            go_wp2_with fail
            (with_reducible refine qe.mono ?_)
            rintro e w6 ⟨rfl,b6⟩
            have y5:=((BC5.below b6 BC5.lt).cell 5).trans h5'
            have x1:w6.cell? ⟨bj,oj+m*49,none⟩=_:=(b6.cell (p:=⟨bj,oj+m*49+0,none⟩) (by show bj<_;have:=BJ.lt;omega)).trans x0
            have hb6:=bCall hb5 b6
            have hR6:=(hR0.1.below hb6).more hb6.size
            have hn:Hid (c.inAt i=(c.jobAt m).bare):=Lib.hid (by rw [hin.out];unfold nextL;rw [hem];rfl)
            clear hin qe hem
            go_wp2_with fail
            go_ret3
            exact ⟨_,_,by rw [←hp.out,hn.out];rfl,hb6,by rw [hn.out];exact hR6⟩
theorem why_range (c:Cs) (i k:Nat):c.whyAt i k=0∨(3≤c.whyAt i k∧c.whyAt i k≤5):=by
  unfold Cs.whyAt
  split
  · omega
  · split
    · split <;> omega
    · omega
theorem way_range (c:Cs):∀ {f i k:Nat},(c.way f i k).2≠0→(i:Int)≤(c.way f i k).1∧(c.way f i k).1<(i:Int)+(f:Int)∧3≤(c.way f i k).2∧(c.way f i k).2≤5
  | 0,_,_,h=>absurd rfl h
  | f+1,i,k,h=>by
    have e:c.way (f+1) i k=if (c.jobAt i).emptyB=true then c.way f (i+1) k else if c.whyAt i k=0 then c.way f (i+1) (c.stepAt i).right.at_.toNat else ((i:Int),c.whyAt i k):=rfl
    rw [e] at h ⊢
    by_cases h1:(c.jobAt i).emptyB=true
    · rw [if_pos h1] at h ⊢
      have:=way_range c h
      omega
    · rw [if_neg h1] at h ⊢
      by_cases h2:c.whyAt i k=0
      · rw [if_pos h2] at h ⊢
        have:=way_range c h
        omega
      · rw [if_neg h2]
        have:=why_range c i k
        show (i:Int)≤(i:Int)∧(i:Int)<_∧3≤c.whyAt i k∧c.whyAt i k≤5
        omega
theorem check_range {c:Cs} (h:c.check.2.2=0):c.check.2.1=0∨c.check.2.1=1∨(0≤c.check.1∧c.check.1<c.keys.length∧3≤c.check.2.1∧c.check.2.1≤5):=by
  obtain ⟨h1,h2,h3⟩:=check_ok h
  rw [check_of h1 h2 h3]
  split
  · by_cases hw : (c.way c.keys.length 0 c.place.toNat).2 = 0
    · exact .inl hw
    · have:=way_range c hw
      refine .inr (.inr ?_)
      show 0≤(c.way c.keys.length 0 c.place.toNat).1∧(c.way c.keys.length 0 c.place.toNat).1<_∧3≤(c.way c.keys.length 0 c.place.toNat).2∧(c.way c.keys.length 0 c.place.toNat).2≤5
      omega
  · exact .inr (.inl rfl)
theorem judge_says (a:Ca) (l:List Int):(∃ e,a.judge l=(0,0,e)∧e≠0)∨a.judge l=(-1,1,0)∨(a.judge l=(-1,0,0)∧a.c.check.2.1=0∧a.c.check.2.2=0)∨(∃ (o:Nat) (y:Int),a.judge l=((o:Int),y,0)∧o<l.length∧2≤y∧y≤5):=by
  by_cases h1:lineB l=true∧l.length=a.c.keys.length
  case neg=>exact .inl ⟨560,judge_bad h1,by omega⟩
  obtain ⟨hl,hkl⟩:=h1
  by_cases he:a.c.check.2.2=0
  case neg=>exact .inl ⟨_,judge_err hl hkl he,he⟩
  by_cases hw:a.c.check.2.1=1
  · exact .inr (.inl (judge_send hl hkl he hw))
  have hr:=check_range he
  have hj:a.judge l=match firstW (a.wrong l) (if a.c.check.2.1=0 then l.length else a.c.check.1.toNat) 0 with
      | some h=>((h:Int),2,0)
      | none=>if a.c.check.2.1=0 then (-1,0,0) else (a.c.check.1,a.c.check.2.1,0):=by
    unfold Ca.judge
    rw [if_pos ⟨hl,hkl⟩,if_neg (by rw [he];simp),if_neg hw]
    rfl
  cases hf:firstW (a.wrong l) (if a.c.check.2.1=0 then l.length else a.c.check.1.toNat) 0 with
  | some h =>
    rw [hf] at hj
    have:=(firstW_some hf).2.1
    refine .inr (.inr (.inr ⟨h,2,hj,?_,by omega,by omega⟩))
    split at this <;> omega
  | none =>
    rw [hf] at hj
    by_cases h0:a.c.check.2.1=0
    · exact .inr (.inr (.inl ⟨by rw [hj];show (if _ then _ else _)=_;rw [if_pos h0],h0,he⟩))
    · refine .inr (.inr (.inr ⟨a.c.check.1.toNat,a.c.check.2.1,?_,by omega,by omega,by omega⟩))
      rw [hj]
      show (if _ then _ else _)=_
      rw [if_neg h0,show ((a.c.check.1.toNat:Nat):Int)=a.c.check.1 by omega]
theorem right_of {c:Cs} (hw:c.check.2.1=0) (he:c.check.2.2=0):c.formed=true∧c.valid=true∧c.bares=true∧c.sealed=true∧(c.way c.keys.length 0 c.place.toNat).2=0:=by
  obtain ⟨h1,h2,h3⟩:=check_ok he
  rw [check_of h1 h2 h3] at hw
  by_cases hs:c.sealed=true
  · rw [if_pos hs] at hw
    exact ⟨h1,h2,h3,hs,hw⟩
  · rw [if_neg hs] at hw
    exact absurd hw (by show ¬(1:Int)=0;omega)
theorem bare_of {c:Cs} (h:c.bares=true) {i:Nat} (hi:i<c.keys.length):c.bareAt i=true:=List.all_eq_true.1 h i (List.mem_range.2 hi)
theorem key_of {c:Cs} {i:Nat} {k:Int} (h:c.keys[i]?=some k):c.keyAt i=k:=by
  unfold Cs.keyAt;rw [List.getD_eq_getElem?_getD,h];rfl
def Cs.wayK (c:Cs) (i:Nat):Nat:=((upto c.keys.length i).foldl c.go (some c.place.toNat)).getD 0
theorem wayK_of {c:Cs} {i k:Nat} (h:(upto c.keys.length i).foldl c.go (some c.place.toNat)=some k):c.wayK i=k:=by
  unfold Cs.wayK;rw [h];rfl
theorem wayK_is {c:Cs} (h:(c.way c.keys.length 0 c.place.toNat).2=0):∀ {i:Nat},i≤c.keys.length→(upto c.keys.length i).foldl c.go (some c.place.toNat)=some (c.wayK i)
  | 0,_=>by rw [wayK_of (k:=c.place.toNat) (by rw [upto_zero];rfl),upto_zero];rfl
  | i+1,hi=>by
    have ih:=wayK_is h (show i≤c.keys.length by omega)
    have hi':i<c.keys.length:=hi
    cases he:(c.jobAt i).emptyB
    · have:=c.go_on (x:=⟨i,hi'⟩) ih he (way_right h hi' ih he)
      rw [upto_succ hi'] at this
      rw [wayK_of this];exact this
    · have:=c.go_bare (x:=⟨i,hi'⟩) ih he
      rw [upto_succ hi'] at this
      rw [wayK_of this];exact this
theorem goes_all {c:Cs} (h:(c.way c.keys.length 0 c.place.toNat).2=0) {i:Nat} (hi:i≤c.keys.length):c.Goes c.wayK i:=by
  refine ⟨wayK_of (by rw [upto_zero];rfl),fun j hj=>?_⟩
  have hj':j<c.keys.length:=by omega
  have ih:=wayK_is h (Nat.le_of_lt hj')
  cases he:(c.jobAt j).emptyB
  · have hw:=way_right h hj' ih he
    have:=c.go_on (x:=⟨j,hj'⟩) ih he hw
    rw [upto_succ hj'] at this
    exact .inr ⟨rfl,hw,wayK_of this⟩
  · have:=c.go_bare (x:=⟨j,hj'⟩) ih he
    rw [upto_succ hj'] at this
    exact .inl ⟨rfl,wayK_of this⟩
theorem fits_on {c:Cs} {i k:Nat} (hb:c.bareAt i=true) (hw:(c.jobAt i).emptyB=false→c.whyAt i k=0) (hk:k<(c.inAt i).length) :
    k<(c.jobAt i).bare.length∧((c.jobAt i).emptyB=true→k<(c.inAt (i+1)).length)∧((c.jobAt i).emptyB=false→(c.stepAt i).right.at_.toNat<(c.inAt (i+1)).length):=by
  cases hem:(c.jobAt i).emptyB
  · have hw0:=hw hem
    unfold Cs.whyAt at hw0
    split at hw0
    · omega
    · split at hw0
      · rename_i hst
        unfold strippedB at hst
        simp only [Bool.and_eq_true,decide_eq_true_eq] at hst
        have h2:=hst.2.1
        split at hw0
        · rename_i hop
          have hlt:=opened_lt hop
          unfold openedB at hop
          simp only [Bool.and_eq_true,decide_eq_true_eq] at hop
          have hl:=hop.1
          unfold lensB at hl
          simp only [Bool.and_eq_true,decide_eq_true_eq] at hl
          refine ⟨by omega,fun h=>(by cases h),fun _=>?_⟩
          show _<(nextL (c.jobAt i)).length
          unfold nextL
          rw [if_neg (by rw [hem];simp)]
          have:=hl.2.2.1
          have:=hlt.2
          omega
        · omega
      · omega
  · unfold Cs.bareAt at hb
    rw [hem] at hb
    simp only [Bool.not_true,Bool.false_or] at hb
    obtain ⟨_,h2,_⟩:=checkBare_len hb
    refine ⟨by omega,fun _=>?_,fun h=>(by cases h)⟩
    show _<(nextL (c.jobAt i)).length
    unfold nextL
    rw [if_pos hem]
    omega
theorem wayK_lt {c:Cs} (hb:c.bares=true) (hp:c.place.toNat<c.first.length) (h:(c.way c.keys.length 0 c.place.toNat).2=0):∀ {i:Nat},i≤c.keys.length→c.wayK i<(c.inAt i).length
  | 0,_=>by rw [wayK_of (k:=c.place.toNat) (by rw [upto_zero];rfl)];exact hp
  | i+1,hi=>by
    have hi':i<c.keys.length:=hi
    have ih:=wayK_lt hb hp h (Nat.le_of_lt hi')
    have hw:=wayK_is h (Nat.le_of_lt hi')
    obtain ⟨_,f1,f2⟩:=fits_on (bare_of hb hi') (fun he=>way_right h hi' hw he) ih
    cases he:(c.jobAt i).emptyB
    · have:=c.go_on (x:=⟨i,hi'⟩) hw he (way_right h hi' hw he)
      rw [upto_succ hi'] at this
      rw [wayK_of this];exact f2 he
    · have:=c.go_bare (x:=⟨i,hi'⟩) hw he
      rw [upto_succ hi'] at this
      rw [wayK_of this];exact f1 he
theorem At.wayK {c:Cs} {e:Fin 3→Int} {i k:Nat} {x:Ltr} (h:c.At e c.place.toNat i k x):c.wayK i=k:=wayK_of h.way
theorem eqWords (a b c d e f:Int) (w:World):(Op.equalIn 10000 28 (.agg #[.int .i64 a,.int .i64 b,.int .i64 c]) (.agg #[.int .i64 d,.int .i64 e,.int .i64 f])).run Tryz.prog w = .ok (a==d&&(b==e&&c==f)) w:=by
  have u3:=Tryz.underlying3
  have a3:=Tryz.isAgg3
  have z3:=Tryz.sizeOf3
  rw [show (10000:Nat)=9999+1 from rfl,Op.equalIn]
  simp only [Sem.run_bind,run_underlying Tryz.underlying28,Result.andThen_ok]
  simp only [Std.Legacy.Range.forIn_eq_forIn_range',Std.Legacy.Range.size,Nat.sub_zero,Nat.add_sub_cancel,Nat.div_one,List.range'_succ,List.range'_zero,List.forIn_cons,List.forIn_nil]
  have e1:=fun (x y:Int)=>run_equalIn_int w 9998 3 .i64 .i64 x y Tryz.underlying3
  go_simp
  by_cases h1:a=d <;> by_cases h2:b=e <;> by_cases h3:c=f <;> simp [h1,h2,h3]
def Wd.eqB (v u:Wd):Bool:=v.x==u.x&&(v.y==u.y&&v.z==u.z)
theorem Wd.eqB_iff {v u:Wd} : v.eqB u=true↔v=u:=by
  obtain ⟨a,b,c⟩:=v
  obtain ⟨d,e,f⟩:=u
  simp [Wd.eqB]
theorem run_eqW (v u:Wd) (w:World):(binOp .eql 28 v.agg u.agg).run Tryz.prog w = .ok (.bool (v.eqB u)) w:=by
  unfold Wd.agg Wd.eqB
  rw [run_eql_struct,eqWords];rfl
end Go.Proofs.YtgkpomdegomgiaaGreatDoor

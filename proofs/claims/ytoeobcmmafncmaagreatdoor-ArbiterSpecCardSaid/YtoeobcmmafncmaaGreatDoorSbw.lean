/- The reference's Check (of a case), walked. -/
import Derived.Test.YtoeobcmmafncmaaGreatDoorSbv
import Derived.Test.YtoeobcmmafncmaaGreatDoorSba
import Derived.Test.YtoeobcmmafncmaaGreatDoorSbn
import Derived.Test.YtoeobcmmafncmaaGreatDoorSbo
import Derived.Test.YtoeobcmmafncmaaGreatDoorSbt
import Derived.Test.YtoeobcmmafncmaaGreatDoorSbs
set_option maxRecDepth 1000000
set_option maxHeartbeats 16000000
namespace Go.Proofs.YtoeobcmmafncmaaGreatDoor
open Go.RowKit
theorem restAt_valid {c:Cs} (hv:∀ k∈c.keys,validB k=true) {i:Nat} (hi:i≤c.keys.length):validB (c.restAt i)=true∧(restL c.keys)[i]?=some (c.restAt i):=by
 have hl:=restL_length c.keys
 have h1:(restL c.keys)[i]?=some (restL c.keys)[i]:=List.getElem?_eq_getElem (by omega)
 have h2:c.restAt i=(restL c.keys)[i]:=by unfold Cs.restAt;rw [List.getD_eq_getElem?_getD,h1];rfl
 rw [h2]
 exact ⟨restL_valid hv _ (List.getElem_mem _),h1⟩
theorem after_why {c:Cs} {i p:Nat} (hr:validB (c.restAt (i+1))=true) :
  (afterP (c.keyAt i) (c.restAt (i+1)) (c.jobAt i) (c.stepAt i) (c.inAt i) p).2=c.whyAt i p∧(c.whyAt i p=0→(afterP (c.keyAt i) (c.restAt (i+1)) (c.jobAt i) (c.stepAt i) (c.inAt i) p).1=(((c.stepAt i).right.at_.toNat:Nat):Int)):=by
 unfold afterP
 by_cases hm:(c.stepAt i).mid = -1
 ·rw [if_pos hm,Cs.why5 hm]
  exact ⟨rfl,fun h=>by omega⟩
 rw [if_neg hm]
 cases hs:strippedB (c.keyAt i) (c.inAt i) (c.jobAt i) p
 ·rw [if_neg (by simp),Cs.why3 hm hs]
  exact ⟨rfl,fun h=>by omega⟩
 rw [if_pos rfl,opened_eq hr hs]
 cases ho:openedB (c.restAt (i+1)) (c.inAt i).length (c.jobAt i) (c.stepAt i) p
 ·rw [if_neg (by simp),Cs.why4 hm hs ho]
  exact ⟨rfl,fun h=>by omega⟩
 ·rw [if_pos rfl,Cs.why0 hm hs ho]
  have:=opened_lt ho
  exact ⟨rfl,fun _=>by show (c.stepAt i).right.at_=_;omega⟩
theorem Cs.way_empty (c:Cs) {n i p:Nat} (hi:i<n) (he:(c.jobAt i).emptyB=true):c.way (n - i) i p=c.way (n - (i+1)) (i+1) p:=by
 rw [show n - i=(n - (i+1))+1 by omega]
 show (if (c.jobAt i).emptyB=true then _ else _)=_
 rw [if_pos he]
theorem Cs.way_next (c:Cs) {n i p:Nat} (hi:i<n) (he:(c.jobAt i).emptyB=false) (hw:c.whyAt i p=0):c.way (n - i) i p=c.way (n - (i+1)) (i+1) (c.stepAt i).right.at_.toNat:=by
 rw [show n - i=(n - (i+1))+1 by omega]
 show (if (c.jobAt i).emptyB=true then _ else if c.whyAt i p=0 then _ else _)=_
 rw [if_neg (by rw [he];simp),if_pos hw]
theorem Cs.way_stop (c:Cs) {n i p:Nat} (hi:i<n) (he:(c.jobAt i).emptyB=false) (hw:c.whyAt i p≠0):c.way (n - i) i p=((i:Int),c.whyAt i p):=by
 rw [show n - i=(n - (i+1))+1 by omega]
 show (if (c.jobAt i).emptyB=true then _ else if c.whyAt i p=0 then _ else _)=_
 rw [if_neg (by rw [he];simp),if_neg hw]
def chkV (R:Int×Int×Int):Value := .tuple #[.int .i64 R.1,.int .i64 R.2.1,.int .i64 R.2.2]
theorem ret_chk3 {R:Int×Int×Int} {a b e:Int} (h:R=(a,b,e)):Ending.returned (.tuple #[.int .i64 a,.int .i64 b,.int .i64 e]) = .returned (chkV R):=by rw [h];rfl
theorem ref_check55 (cs:Array Value) (jcs:List (Array Value)) (c:Cs) (W:World) (h:CaseAt W W.heap.size cs jcs c) (hfew:c.jobs.length≤1000) (hfl:c.first.length≤1152921504606846976) (hkl:c.keys.length≤12) :
  Calls Tryz.prog 16 #[.agg cs] W (Ret (chkV c.check) W):=by
 obtain ⟨R,hR⟩:∃ R,R=c.check:=⟨_,rfl⟩
 rw [←hR]
 have B1:=Blk.new W 33 cs _ rfl
 have hb:=bAl (bRefl W) (.cells cs 33)
 have LC:=load_case B1 h.size
 have q1:=ref_formed55 cs jcs c (W.alloc (.cells cs 33)) ((h.below hb).more hb.size) hfew hfl
 cases hF:(c.formed&&(c.valid&&c.bares))
 case false =>
  have Hv:Hid (R=(0,0,550)):=by
   show _=_
   rw [hR]
   unfold Cs.check
   cases h1:c.formed
   ·rfl
   cases h2:c.valid
   ·rfl
   cases h3:c.bares
   ·rfl
   rw [h1,h2,h3] at hF;cases hF
  rw [hF] at q1
  clear hR hF
  go_enter Tryz.func16,Tryz.ntmps16
  go_upto_region 1 with fail
  generalize W.alloc (.cells cs 33)=w1 at *
  apply wp_region_lit
  refine wpList_loadG (by rfl) (by rfl) (by rfl) LC ?_
  simp only [Act.put,List.setIfInBounds_toArray,List.set_cons_zero,List.set_cons_succ]
  go_wp2_with fail
  (with_reducible refine q1.mono ?_)
  rintro e w2 ⟨rfl,b2⟩
  go_wp2_with fail
  go_ret3
  exact ⟨ret_chk3 Hv.out,bCall hb b2⟩
 have hf:c.formed=true:=by simp only [Bool.and_eq_true] at hF;exact hF.1
 have hvd:c.valid=true:=by simp only [Bool.and_eq_true] at hF;exact hF.2.1
 have hbs:c.bares=true:=by simp only [Bool.and_eq_true] at hF;exact hF.2.2
 have hkv:∀ k∈c.keys,validB k=true:=List.all_eq_true.1 hvd
 have hR2:R=if c.sealed=true then ((c.way c.keys.length 0 c.place.toNat).1,(c.way c.keys.length 0 c.place.toNat).2,0) else (0,1,0):=by
  rw [hR]
  unfold Cs.check
  rw [if_pos hf,if_pos hvd,if_pos hbs]
 have hfd:formedB c.keys.length c.jobs.length c.steps.length c.first c.place=true:=hf
 unfold formedB at hfd
 simp only [Bool.and_eq_true,decide_eq_true_eq] at hfd
 obtain ⟨n2,n9,hjn,-,-,hf64,-,hpl0,hpl⟩:=hfd
 obtain ⟨p0,hp0⟩:∃ p0:Nat,c.place=p0:=⟨c.place.toNat,by omega⟩
 have hp':c.place.toNat=p0:=by omega
 rw [hp'] at hR2
 have hpl1:p0<c.first.length:=by omega
 obtain ⟨A3,c3,h3,r3,l3,l3'⟩:=h.first
 obtain ⟨A4,c4,h4,r4⟩:=h.keys
 obtain ⟨At,ct,h13,r13⟩:=h.steps
 have h6:=h.place
 rw [hp0] at h6
 rw [hF] at q1
 have Hp0:=Lib.hid hp0
 have Hp':=Lib.hid hp'
 have HR2:=Lib.hid hR2
 have Hjn:=Lib.hid hjn
 clear hR hF hf hvd hbs hR2 hp0 hp' hpl0 hpl hjn
 have hso:=h.stepOk
 go_enter Tryz.func16,Tryz.ntmps16
 go_upto_region 1 with fail
 generalize W.alloc (.cells cs 33)=w1 at *
 apply wp_region_lit
 refine wpList_loadG (by rfl) (by rfl) (by rfl) LC ?_
 simp only [Act.put,List.setIfInBounds_toArray,List.set_cons_zero,List.set_cons_succ]
 clear LC
 go_wp2_with fail
 (with_reducible refine q1.mono ?_)
 rintro e w2 ⟨rfl,b2⟩
 have hb2:=bCall hb b2
 have B2:=B1.below b2 B1.lt
 have k4:=(B2.cell 4).trans h4
 have qr:=ref_rest A4 c.keys.length c4 c.keys w2 ((r4.below hb2).more hb2.size) (by omega) hkv
 clear q1 hb b2 B1
 go_wp2_with fail
 (with_reducible refine qr.mono ?_)
 rintro e w3 ⟨b3,g,rfl,hgw,BG⟩
 have hb3:=bCall hb2 b3
 have B3:=B2.below b3 B2.lt
 clear qr k4 hb2 b3 B2
 have hr0:=(restAt_valid hkv (Nat.zero_le _)).2
 go_upto_region 4 with fail
 have KS:Hid (∀ w',Below w3.heap.size w3 w'→_):=Lib.hid (fun w' b=>and7 (((BG.below b BG.lt).cell 0).trans (show (ints (restL c.keys)).toArray[0]?=some (.int .i64 (c.restAt 0)) by rw [List.getElem?_toArray];exact ints_at hr0))
  (((B3.below b B3.lt).cell 7).trans h.w0) (((B3.below b B3.lt).cell 8).trans h.w1) (((B3.below b B3.lt).cell 9).trans h.w2) (((B3.below b B3.lt).cell 10).trans h.r0) (((B3.below b B3.lt).cell 11).trans h.r1) (((B3.below b B3.lt).cell 12).trans h.r2))
 obtain ⟨sv,hsv⟩:∃ sv,sv=sealV (c.restAt 0) c.words.x c.words.y c.words.z c.r0 c.r1 c.r2:=⟨_,rfl⟩
 obtain ⟨se,hse⟩:∃ se,se=sealE (c.restAt 0) c.words.x c.words.y c.words.z:=⟨_,rfl⟩
 have q:Hid (∀ w,Calls Tryz.prog 38 #[.int .i64 (c.restAt 0),.agg #[.int .i64 c.words.x,.int .i64 c.words.y,.int .i64 c.words.z],.agg #[.int .i64 c.r0,.int .i64 c.r1,.int .i64 c.r2]] w (Ret (.tuple #[.agg #[.int .i64 sv.a0,.int .i64 sv.b0,.int .i64 sv.a1,.int .i64 sv.b1,.int .i64 sv.a2,.int .i64 sv.b2],.int .i64 se]) w)):=by
  intro w
  rw [hsv,hse]
  exact ref_seal _ _ _ _ _ _ _ w
 have hsl:Hid (c.sealed=(decide (se=0)&&sv.eqB (c.first.getD p0 zeroL))):=by
  show _=_
  rw [hsv,hse];unfold Cs.sealed;rw [Hp'.out]
 clear hsv hse hr0
 have i0:(0:Int)<(c.keys.length:Int)+1:=by omega
 go_cut [7,8] from 22 (fun s9 s10 wc=>∃ lb,s9 = .pointer (some ⟨lb,0,none⟩)∧s10 = .int .i64 se∧Blk wc lb 70 #[.int .i64 sv.a0,.int .i64 sv.b0,.int .i64 sv.a1,.int .i64 sv.b1,.int .i64 sv.a2,.int .i64 sv.b2]∧Below w3.heap.size w3 wc)
 case first =>
  go_region_held3 (fun w'=>w'.cell? ⟨g,0,none⟩=some (.int .i64 (c.restAt 0))∧w'.cell? ⟨W.heap.size,7,none⟩=some (.int .i64 c.words.x)∧w'.cell? ⟨W.heap.size,8,none⟩=some (.int .i64 c.words.y)∧w'.cell? ⟨W.heap.size,9,none⟩=some (.int .i64 c.words.z)∧w'.cell? ⟨W.heap.size,10,none⟩=some (.int .i64 c.r0)∧w'.cell? ⟨W.heap.size,11,none⟩=some (.int .i64 c.r1)∧w'.cell? ⟨W.heap.size,12,none⟩=some (.int .i64 c.r2))
   (exact KS.out _ (by repeat (first | with_reducible exact B7 | with_reducible exact bRefl _ | with_reducible refine bAl ?_ _ | with_reducible refine bDr ?_ | with_reducible refine bSet ?_ (by exact Nat.le_refl _) _)))
   (first
   | (go_simp;go_at_call 38;(with_reducible refine (q.out _).mono ?_);rintro e w7 ⟨rfl,b7⟩;have B7:Below w3.heap.size w3 w7:=bCall (by repeat (first | exact bRefl _ | refine bAl ?_ _ | refine bDr ?_)) b7;(try (have BZ:Blk w7 w3.heap.size 70 #[.int .i64 0,.int .i64 0,.int .i64 0,.int .i64 0,.int .i64 0,.int .i64 0]:=Blk.below (by first | exact Blk.new _ _ _ _ rfl | exact Blk.dr (Blk.new _ _ _ _ rfl)) b7 (by simp);obtain ⟨k0,k1,k2,k3,k4,k5⟩:=BZ.six;obtain ⟨z0,z1,z2,z3,z4,z5⟩:=BZ.six_free))))
  all_goals
   go_wp2_with fail
   go_meet
   first
    | (with_reducible refine ⟨_,rfl,rfl,Blk.new _ _ _ _ rfl,bAl B7 _⟩;done)
    | exact ⟨_,rfl,rfl,BZ.set6 (.int .i64 sv.a0) (.int .i64 sv.b0) (.int .i64 sv.a1) (.int .i64 sv.b1) (.int .i64 sv.a2) (.int .i64 sv.b2),bSet6 B7 (Nat.le_refl _) (.int .i64 sv.a0) (.int .i64 sv.b0) (.int .i64 sv.a1) (.int .i64 sv.b1) (.int .i64 sv.a2) (.int .i64 sv.b2)⟩
 case rest =>
  obtain ⟨lb,rfl,rfl,BS,b8⟩:=hcut
  have hbc:=bCall hb3 b8
  have BC:=B3.below b8 B3.lt
  have BG8:=BG.below b8 BG.lt
  clear b8 KS q B3 BG hb3
  obtain ⟨X0,hX0⟩:∃ X,Hid (c.first[p0]?=some X):=⟨_,Lib.hid (List.getElem?_eq_getElem hpl1)⟩
  have hsl2:Hid (c.sealed=(decide (se=0)&&sv.eqB X0)):=by
   show _=_
   rw [hsl.out,List.getD_eq_getElem?_getD,hX0.out];rfl
  clear hsl
  by_cases hse:se=0
  case neg =>
   have hv:Hid (R=(0,1,0)):=by show _=_;rw [HR2.out,hsl2.out,decide_eq_false hse];rfl
   have f0:(se != 0)=true:=by rw [bne_iff_ne];exact hse
   clear hse hsl2
   go_upto_region 5 with fail
   go_quiet (fail)
   go_wp2_with fail
   go_ret3
   exact ⟨ret_chk3 hv.out,bDrN hbc nq⟩
  subst hse
  have hne:=run_neS sv X0
  have hne':=run_neS X0 sv
  unfold Ltr.agg at hne hne'
  obtain ⟨b,off,rfl,hbb,o0,o1,o2,o3,o4,o5⟩:=Ltr_at (r3.below hbc) hpl1 hX0.out
  obtain ⟨s0,s1,s2,s3,s4,s5⟩:=BS.six
  have y3:=(BC.cell 3).trans h3
  have y6:=(BC.cell 6).trans h6
  have i1:(0:Int)≤(p0:Int):=by omega
  have i2:(p0:Int)<(c.first.length:Int):=by omega
  have hsym:X0.eqB sv=sv.eqB X0:=by rw [Bool.eq_iff_iff,Ltr.eqB_iff,Ltr.eqB_iff];exact ⟨fun h=>h.symm,fun h=>h.symm⟩
  rw [hsym] at hne'
  clear hne hsym
  cases hr:sv.eqB X0
  case false =>
   have hv:Hid (R=(0,1,0)):=by show _=_;rw [HR2.out,hsl2.out,hr];rfl
   rw [hr] at hne'
   clear hsl2 hr
   go_upto_region 5 with fail
   go_quiet (fail)
   go_wp2_with fail
   go_ret3
   exact ⟨ret_chk3 hv.out,bDrN hbc nq⟩
  have hsd:Hid (R=((c.way c.keys.length 0 p0).1,(c.way c.keys.length 0 p0).2,0)):=by show _=_;rw [HR2.out,hsl2.out,hr];rfl
  rw [hr] at hne'
  clear hsl2 hr
  go_upto_region 5 with fail
  go_quiet (fail)
  have BC9:Blk (wc.drewN nq) W.heap.size 33 cs:=BC
  have BG9:Blk (wc.drewN nq) g 3 (ints (restL c.keys)).toArray:=BG8
  have hb9:=bDrN hbc nq
  clear s0 s1 s2 s3 s4 s5 o0 o1 o2 o3 o4 o5 y3 y6 hne' BS BC BG8 hbc i0
  generalize wc.drewN nq=w9 at *
  have y6:=(BC9.cell 6).trans h6
  go_wp2_with fail
  clear y6
  go_loopw [9,10] (fun kk ll wr=>∃ i p:Nat,i≤c.keys.length∧ll = .int .i64 i∧kk = .int .i64 p∧Below W.heap.size W wr∧Blk wr W.heap.size 33 cs∧Blk wr g 3 (ints (restL c.keys)).toArray∧Hid (c.way c.keys.length 0 p0=c.way (c.keys.length - i) i p)) (fun _ ll _=>c.keys.length - (intOf ll).toNat)
  case atStart=>exact ⟨0,p0,Nat.zero_le _,rfl,rfl,hb9,BC9,BG9,Lib.hid (by rw [Nat.sub_zero])⟩
  case round =>
   clear hb9 BC9 BG9 i1 i2
   obtain ⟨i,p,hin,rfl,rfl,hb,BC,BG,hw⟩:=hrel
   have y4:=(BC.cell 4).trans h4
   by_cases hlt:i<c.keys.length
   ·have hmj:i<c.jobs.length:=by have:=Hjn.out;omega
    have hH:=(h.below hb).more hb.size
    obtain ⟨bj,oj,cj,h5',hbj,hL⟩:=hH.jobLoad (by omega)
    have k5:=(BC.cell 5).trans h5'
    obtain ⟨jc,hjc⟩:∃ jc,Hid (jcs[i]?=some jc):=⟨_,Lib.hid (List.getElem?_eq_getElem (by rw [h.jlen];omega))⟩
    obtain ⟨a1,a2,a3,a4⟩:=h.job i jc hjc.out
    have LJ:=(hL i jc hjc.out).1
    have hLL:∀ w',Below wr.heap.size wr w'→(Instr.loadAt 55 (.pointer (some ⟨bj,oj+i*49,none⟩))).run Tryz.prog w' = .ok (.agg jc) w':=fun w' b=>by
     have hc:=(hL i jc hjc.out).2
     have:=run_loadAt_mid (P:=Tryz.prog) w' bj (oj+i*49) 55 jc.toList _ (fun j u hj=>(b.cell (p:=⟨bj,oj+i*49+j,none⟩) hbj).trans (hc j u (by simpa using hj))) Tryz.underlying55 rfl (by rw [Array.length_toList,a1];exact job_info)
     rwa [Array.toArray_toList] at this
    have qe:=fun w=>ref_empty jc (c.jobAt i).emptyB w (a3.lens3 a4)
    have i0:(0:Int)≤(i:Int):=by omega
    have i1:(i:Int)<(c.jobs.length:Int):=by omega
    have i2:(i:Int)<(c.keys.length:Int):=by omega
    cases hem:(c.jobAt i).emptyB
    case true =>
     have hw2:=Lib.hid (hw.out.trans (c.way_empty hlt hem))
     rw [hem] at qe
     clear hem hw hL
     go_upto_region 11 with fail
     apply wp_region_lit
     iterate 12 go_step
     refine wpList_loadG (by rfl) (by rfl) (by rfl) LJ ?_
     simp only [Act.put,List.setIfInBounds_toArray,List.set_cons_zero,List.set_cons_succ]
     go_wp2_with fail
     (with_reducible refine (qe _).mono ?_)
     rintro e w2 ⟨rfl,b2⟩
     go_wp2_with fail
     exact ⟨⟨i+1,p,by omega,by go_num,rfl,bCall hb b2,BC.below b2 BC.lt,BG.below b2 BG.lt,hw2⟩,by simp [intOf];omega⟩
    case false =>
     rw [hem] at qe
     obtain ⟨bk,ok,x,eK,hbk,hx0,d0⟩:=key_at (r4.below hb) hlt rfl
     have hkx:x=c.keyAt i:=by unfold Cs.keyAt;rw [List.getD_eq_getElem?_getD,hx0];rfl
     obtain ⟨hrv,hri⟩:=restAt_valid hkv (show i+1≤c.keys.length by omega)
     have haw:=after_why (c:=c) (i:=i) (p:=p) hrv
     obtain ⟨rs,hrs⟩:∃ rs,rs=c.restAt (i+1):=⟨_,rfl⟩
     obtain ⟨U,hU⟩:∃ U,U=afterP (c.keyAt i) (c.restAt (i+1)) (c.jobAt i) (c.stepAt i) (c.inAt i) p:=⟨_,rfl⟩
     have qb:∀ w,Below W.heap.size W w→Calls Tryz.prog 40 #[.agg cs,.int .i64 (i:Nat)] w (RetLs (c.inAt i) w):=fun w hw=>ref_batch cs jcs c i w ((h.below hw).more hw.size) (by omega) hfew
     have qa:∀ w (A:Option Addr) (cc:Nat),Below W.heap.size W w→Rd w w.heap.size 6 A (c.inAt i).length ((c.inAt i).flatMap Ltr.cl)→Calls Tryz.prog 39 #[.int .i64 x,.int .i64 rs,.agg jc,.slice At c.steps.length ct,.int .i64 (i:Nat),.slice A (c.inAt i).length cc,.int .i64 (p:Nat)] w (Ret (.tuple #[.int .i64 U.1,.int .i64 U.2]) w):=fun w A cc hw hr=>by
      rw [hkx,hrs,hU]
      exact ref_after (c.keyAt i) (c.restAt (i+1)) jc (c.jobAt i) c.steps (c.inAt i) i p At A ct cc w a1 ((a3.below hw).more hw.size) ((r13.below hw).more hw.size) hso hr
     rw [←hU] at haw
     have KS:Hid (∀ w',Below wr.heap.size wr w'→(Instr.loadAt 55 (.pointer (some ⟨bj,oj+i*49,none⟩))).run Tryz.prog w' = .ok (.agg jc) w'∧(Instr.loadAt 33 (.pointer (some ⟨W.heap.size,0,none⟩))).run Tryz.prog w' = .ok (.agg cs) w'∧w'.cell? ⟨W.heap.size,4,none⟩=some (.slice (some ⟨bk,ok,none⟩) c.keys.length c4)∧w'.cell? ⟨bk,ok+i,none⟩=some (.int .i64 x)∧w'.cell? ⟨g,i+1,none⟩=some (.int .i64 rs)∧w'.cell? ⟨W.heap.size,5,none⟩=some (.slice (some ⟨bj,oj,none⟩) c.jobs.length cj)∧w'.cell? ⟨W.heap.size,13,none⟩=some (.slice At c.steps.length ct)):=Lib.hid (fun w' b=>⟨hLL w' b,load_case (BC.below b BC.lt) h.size,((BC.below b BC.lt).cell 4).trans (h4.trans (by rw [eK])),(b.cell (p:=⟨bk,ok+i,none⟩) (by have:=hb.size;show bk<_;omega)).trans d0,((BG.below b BG.lt).cell (i+1)).trans (by rw [List.getElem?_toArray,hrs];exact ints_at hri),((BC.below b BC.lt).cell 5).trans h5',((BC.below b BC.lt).cell 13).trans h13⟩)
     have HAW:=Lib.hid haw
     have HEM:=Lib.hid hem
     have f1:IntKind.i64.wrap ((i:Int)+1)=(i:Int)+1:=by rw [IntKind.wrap_i64];omega
     have f2:((i:Int)+1).toNat=i+1:=by omega
     have f3:(0:Int)≤(i:Int)+1:=by omega
     have f4:(i:Int)+1<(c.keys.length:Int)+1:=by omega
     clear hem hL haw hU hrs hkx hx0 hri d0 eK
     go_upto_region 11 with fail
     apply wp_region_lit
     iterate 12 go_step
     refine wpList_loadG (by rfl) (by rfl) (by rfl) LJ ?_
     simp only [Act.put,List.setIfInBounds_toArray,List.set_cons_zero,List.set_cons_succ]
     go_wp2_with fail
     (with_reducible refine (qe _).mono ?_)
     rintro e w2 ⟨rfl,b2⟩
     have hb2:=bCall hb b2
     have BC2:=BC.below b2 BC.lt
     have BG2:=BG.below b2 BG.lt
     have KS2:Hid (∀ w',Below w2.heap.size w2 w'→(Instr.loadAt 55 (.pointer (some ⟨bj,oj+i*49,none⟩))).run Tryz.prog w' = .ok (.agg jc) w'∧(Instr.loadAt 33 (.pointer (some ⟨W.heap.size,0,none⟩))).run Tryz.prog w' = .ok (.agg cs) w'∧w'.cell? ⟨W.heap.size,4,none⟩=some (.slice (some ⟨bk,ok,none⟩) c.keys.length c4)∧w'.cell? ⟨bk,ok+i,none⟩=some (.int .i64 x)∧w'.cell? ⟨g,i+1,none⟩=some (.int .i64 rs)∧w'.cell? ⟨W.heap.size,5,none⟩=some (.slice (some ⟨bj,oj,none⟩) c.jobs.length cj)∧w'.cell? ⟨W.heap.size,13,none⟩=some (.slice At c.steps.length ct)):=Lib.hid (fun w' b=>KS.out w' (bCall b2 b))
     clear KS LJ qe hb BC BG y4 k5
     go_upto_region 12 with fail
     refine wp_region_schB (f:=27) KS2 [(0,1),(1,2),(2,1),(3,1),(4,2),(5,1),(6,1),(7,1),(8,1),(9,2),(10,1),(11,2),(12,1),(13,1),(14,2),(15,1),(16,1),(17,2),(18,1),(19,2),(20,1),(22,1),(21,0),(23,0),(24,1),(25,1),(26,1),(27,3),(28,3)] ?_
     simp only [pickS,List.getElem?_cons_zero,List.getElem?_cons_succ]
     refine wpSched_t ?_
     refine wpSched_r ?_
     iterate 2 refine wpSched_t ?_
     refine wpSched_r ?_
     iterate 4 refine wpSched_t ?_
     refine wpSched_r ?_
     refine wpSched_t ?_
     refine wpSched_r ?_
     iterate 2 refine wpSched_t ?_
     refine wpSched_r (v:=?v1) (hv:=?h1) ?_;case h1=>(intro w hSw;(first | refine (exec_load rfl rfl hSw).trans ?_ | refine (exec_load rfl rfl hSw.1).trans ?_ | refine (exec_load rfl rfl hSw.2.1).trans ?_ | refine (exec_load rfl rfl hSw.2.2.1).trans ?_ | refine (exec_load rfl rfl hSw.2).trans ?_ | refine (exec_load rfl rfl hSw.2.2).trans ?_);with_reducible rfl)
     iterate 2 refine wpSched_t ?_
     refine wpSched_r ?_
     refine wpSched_t ?_
     refine wpSched_r (v:=?v2) (hv:=?h2) ?_;case h2=>(intro w hSw;(first | refine (exec_load rfl rfl hSw).trans ?_ | refine (exec_load rfl rfl hSw.1).trans ?_ | refine (exec_load rfl rfl hSw.2.1).trans ?_ | refine (exec_load rfl rfl hSw.2.2.1).trans ?_ | refine (exec_load rfl rfl hSw.2).trans ?_ | refine (exec_load rfl rfl hSw.2.2).trans ?_);with_reducible rfl)
     iterate 2 refine wpSched_t ?_
     refine wpSched_force (fun K hK=>?_)
     go_simp;(first | (go_at_call 40;(with_reducible refine (qb _ (bDr hb2)).mono ?_);rintro e w7 ⟨A7,c7,rfl,b7,hR7,_,_⟩;have B7:Below w2.heap.size w2 w7:=bCall (bDr (bRefl _)) b7) | (go_at_call 39;(with_reducible refine (qa _ _ _ (bCall hb2 B7) hR7).mono ?_);rintro e w8 ⟨rfl,b8⟩;have B8:Below w2.heap.size w2 w8:=bCall B7 b8) | skip)
     refine shut_go hK KS2 ?_
     clear hK K
     refine wpSched_force (fun K hK=>?_)
     go_simp;(first | (go_at_call 40;(with_reducible refine (qb _ (bDr hb2)).mono ?_);rintro e w7 ⟨A7,c7,rfl,b7,hR7,_,_⟩;have B7:Below w2.heap.size w2 w7:=bCall (bDr (bRefl _)) b7) | (go_at_call 39;(with_reducible refine (qa _ _ _ (bCall hb2 B7) hR7).mono ?_);rintro e w8 ⟨rfl,b8⟩;have B8:Below w2.heap.size w2 w8:=bCall B7 b8) | skip)
     refine shut_go hK KS2 ?_
     clear hK K
     iterate 3 refine wpSched_t ?_
     refine wpSched_last ?_
     first | simp only [List.map_nil] | simp only [List.map_cons,List.map_nil]
     have hb8:=bCall hb2 B8
     have BC8:=BC2.below B8 BC2.lt
     have BG8:=BG2.below B8 BG2.lt
     clear KS2 B7 B8 hb2 BC2 BG2 qa qb
     by_cases hz:U.2=0
     ·have g1:(U.2 != 0)=false:=by rw [bne_eq_false_iff_eq];exact hz
      have hwhy:c.whyAt i p=0:=by rw [←HAW.out.1];exact hz
      have hU1:U.1=(((c.stepAt i).right.at_.toNat:Nat):Int):=HAW.out.2 hwhy
      have hw2:=Lib.hid (hw.out.trans (c.way_next hlt HEM.out hwhy))
      rw [hU1]
      generalize U.2=u2 at *
      clear hz hwhy hU1 HAW
      go_wp2_with fail
      refine NoPanic.normal ?_
      go_wp2_with fail
      exact ⟨⟨i+1,_,by omega,by go_num,rfl,hb8,BC8,BG8,hw2⟩,by simp [intOf];omega⟩
     ·have g1:(U.2 != 0)=true:=by rw [bne_iff_ne];exact hz
      have hwhy:c.whyAt i p≠0:=by rw [←HAW.out.1];exact hz
      have hv:Hid (R=((i:Int),U.2,0)):=by
       show _=_
       rw [hsd.out,hw.out,c.way_stop hlt HEM.out hwhy,HAW.out.1]
      generalize U.2=u2 at *
      generalize U.1=u1 at *
      clear hz hwhy HAW
      go_wp2_with fail
      refine NoPanic.normal ?_
      go_wp2_with fail
      go_ret3
      exact ⟨ret_chk3 hv.out,hb8⟩
   ·have hv:Hid (R=(0,0,0)):=by
     show _=_
     rw [hsd.out,hw.out,show c.keys.length - i=0 by omega];rfl
    go_wp2_with fail
    go_ret3
    exact ⟨ret_chk3 hv.out,hb⟩
def put2 (w:World) (g:Nat) (a b:Value):World:=(w.setCell ⟨g,0,none⟩ a).setCell ⟨g,1,none⟩ b
theorem put2_blk {w:World} {g:Nat} {a0 b0:Value} (B:Blk w g 37 #[a0,b0]) (a b:Value):Blk (put2 w g a b) g 37 #[a,b]:=(B.set_ 0 a).set_ 1 b
theorem put2_below {W w:World} {g:Nat} (h:Below W.heap.size W w) (hg:W.heap.size≤g) (a b:Value):Below W.heap.size W (put2 w g a b) :=
 bSet (bSet h (p:=⟨g,0,none⟩) hg a) (p:=⟨g,1,none⟩) hg b
theorem okTo_step {a:Ca} {l:List Int} {i:Nat} (h:a.okTo l i) (hw:a.wrong l i=false):a.okTo l (i+1):=fun j hj=>by
 rcases Nat.lt_or_ge j i with h1 | h1
 ·exact h j h1
 ·obtain rfl:j=i:=by omega
  exact hw
theorem lim_le {a:Ca} {l:List Int} (hf:a.c.check.2.2=0) (hs:a.c.check.2.1≠1) (hl:l.length=a.c.keys.length):a.lim l≤l.length:=by
 have:=check_range hf
 unfold Ca.lim
 split
 ·exact Nat.le_refl _
 ·omega
theorem ref_judge56 (a:Ca) (l:List Int) (Al:Option Addr) (cl:Nat) (cs:Array Value) (jcs:List (Array Value)) (W:World) (CA:CaAt W W.heap.size cs jcs a) (hl:Rd W W.heap.size 1 Al l.length (ints l)) (hln:l.length≤1000) (hlc:l.length≤cl) (hlc2:cl≤9223372036854775807)
  (hjl:a.c.jobs.length≤1000) (hfl:a.c.first.length≤1152921504606846976) (hkl:a.c.keys.length≤12) :
  Calls Tryz.prog 7 #[.slice Al l.length cl,.agg cs] W (Ret (judV (a.judge l)) W):=by
 have h:=CA.c
 obtain ⟨w1,hw1⟩:∃ w1,w1=(W.alloc (.cells cs 33)).alloc (.cells #[.int .i64 0,.int .i64 0] 37):=⟨_,rfl⟩
 have BC:Blk w1 W.heap.size 33 cs:=by rw [hw1];exact (Blk.new W _ _ _ rfl).alloc _
 have BR:Blk w1 (W.heap.size+1) 37 #[.int .i64 0,.int .i64 0]:=by rw [hw1];exact Blk.new _ _ _ _ (by simp)
 have hb:Below W.heap.size W w1:=by rw [hw1];exact bAl (bAl (bRefl W) _) _
 obtain ⟨AK,ckk,k4,hRK⟩:=h.keys
 obtain ⟨R,hR⟩:∃ R,Hid (R=a.judge l):=⟨_,Lib.hid rfl⟩
 rw [←hR.out]
 obtain ⟨ck,why,ef,hC⟩:∃ x y e,Hid (a.c.check=(x,y,e)):=⟨_,_,_,Lib.hid rfl⟩
 go_enter Tryz.func7,Tryz.ntmps7
 go_upto_region 1 with fail
 rw [←hw1]
 clear hw1
 have y4:=(BC.cell 4).trans k4
 have q:=ref_offices56 Al cl l a.c.keys.length w1 ((hl.below hb).more hb.size) hln hlc hlc2
 cases hB:lineB l&&((l.length:Int)==(a.c.keys.length:Int))
 ·rw [hB] at q
  have hv:Hid (R=(0,0,560)):=Lib.hid (by
   rw [hR.out]
   refine judge_bad (fun hh=>?_)
   rw [hh.1,show ((l.length:Int)==(a.c.keys.length:Int))=true by rw [beq_iff_eq];omega] at hB
   cases hB)
  clear hB
  go_wp2_with fail
  (with_reducible refine q.mono ?_)
  rintro e w2 ⟨rfl,b2⟩
  replace BR:=BR.below b2 BR.lt
  replace hb:=bCall hb b2
  obtain ⟨x0,x1,z0,z1⟩:=BR.two_
  have BN:=put2_blk BR (.int .i64 0) (.int .i64 0)
  have hbN:=put2_below hb (g:=W.heap.size+1) (by omega) (.int .i64 0) (.int .i64 0)
  go_wp2_with fail
  change bodyPost _ _ _ _ _ (put2 w2 (W.heap.size+1) (.int .i64 0) (.int .i64 0))
  generalize put2 w2 (W.heap.size+1) (.int .i64 0) (.int .i64 0)=w3 at *
  obtain ⟨u0,u1,-,-⟩:=BN.two_
  exact bodyPost_ret (v := .tuple #[.agg #[.int .i64 0,.int .i64 0],.int .i64 560]) (by simp [results,Tryz.results7,go_sem,u0,u1]) rfl ⟨ret_judV hv.out,hbN⟩
 rw [hB] at q
 rw [Bool.and_eq_true,beq_iff_eq] at hB
 obtain ⟨hlb,hlk'⟩:=hB
 have hlk:l.length=a.c.keys.length:=by omega
 have Hlk:=Lib.hid hlk
 have Hlb:=Lib.hid hlb
 clear hlk' hlk hlb
 go_wp2_with fail
 (with_reducible refine q.mono ?_)
 rintro e w2 ⟨rfl,b2⟩
 clear q
 replace BC:=BC.below b2 BC.lt
 replace BR:=BR.below b2 BR.lt
 replace hb:=bCall hb b2
 clear b2 y4
 have LC:=load_case BC h.size
 have q:=ref_check55 cs jcs a.c w2 ((h.below hb).more hb.size) hjl hfl hkl
 rw [hC.out] at q
 unfold chkV at q
 have Hjd:Hid (ef≠0→R=(0,0,ef)):=Lib.hid (fun hne=>by rw [hR.out,judge_err Hlb.out Hlk.out (by rw [hC.out];exact hne),hC.out])
 have Hjs:Hid (ef=0→why=1→R=(-1,1,0)):=Lib.hid (fun h0 h1=>by rw [hR.out];exact judge_send Hlb.out Hlk.out (by rw [hC.out];exact h0) (by rw [hC.out];exact h1))
 have Hjh:Hid (ef=0→why≠1→∀ k,k<a.lim l→a.okTo l k→a.wrong l k=true→R=((k:Int),2,0)):=Lib.hid (fun h0 h1 k k1 k2 k3=>by rw [hR.out];exact judge_hit Hlb.out Hlk.out (by rw [hC.out];exact h0) (by rw [hC.out];exact h1) k1 k3 k2)
 have Hjm:Hid (ef=0→why≠1→a.okTo l (a.lim l)→R=if why=0 then (-1,0,0) else (ck,why,0)):=Lib.hid (fun h0 h1 k2=>by
  have:=judge_miss Hlb.out Hlk.out (by rw [hC.out];exact h0) (by rw [hC.out];exact h1) k2
  rw [hC.out] at this
  rw [hR.out];exact this)
 have Hjl:Hid (ef=0→why≠1→a.lim l≤l.length):=Lib.hid (fun h0 h1=>lim_le (by rw [hC.out];exact h0) (by rw [hC.out];exact h1) Hlk.out)
 have hlim:=Lib.hid (lim_of (l:=l) hC.out)
 have Hcr:Hid (ef=0→a.c.jobs.length=l.length):=Lib.hid (fun h0=>by
  have hf:=(check_ok (c:=a.c) (by rw [hC.out];exact h0)).1
  unfold Cs.formed formedB at hf
  simp only [Bool.and_eq_true,decide_eq_true_eq] at hf
  have:=Hlk.out
  omega)
 have Hn2:Hid (ef=0→2≤l.length):=Lib.hid (fun h0=>by
  have hf:=(check_ok (c:=a.c) (by rw [hC.out];exact h0)).1
  unfold Cs.formed formedB at hf
  simp only [Bool.and_eq_true,decide_eq_true_eq] at hf
  have:=Hlk.out
  omega)
 go_upto_region 3 with fail
 apply wp_region_lit
 refine wpList_loadG (by rfl) (by rfl) (by rfl) LC ?_
 simp only [Act.put,List.setIfInBounds_toArray,List.set_cons_zero,List.set_cons_succ]
 clear LC
 go_wp2_with fail
 (with_reducible refine q.mono ?_)
 rintro e w3 ⟨rfl,b3⟩
 clear q
 replace BC:=BC.below b3 BC.lt
 replace BR:=BR.below b3 BR.lt
 replace hb:=bCall hb b3
 clear b3
 by_cases he:ef=0
 case neg =>
  have te:(ef != 0)=true:=by rw [bne_iff_ne];exact he
  have hv:=Lib.hid (Hjd.out he)
  obtain ⟨x0,x1,z0,z1⟩:=BR.two_
  have BN:=put2_blk BR (.int .i64 0) (.int .i64 0)
  have hbN:=put2_below hb (g:=W.heap.size+1) (by omega) (.int .i64 0) (.int .i64 0)
  go_wp2_with fail
  change bodyPost _ _ _ _ _ (put2 w3 (W.heap.size+1) (.int .i64 0) (.int .i64 0))
  generalize put2 w3 (W.heap.size+1) (.int .i64 0) (.int .i64 0)=w4 at *
  obtain ⟨u0,u1,-,-⟩:=BN.two_
  exact bodyPost_ret (v := .tuple #[.agg #[.int .i64 0,.int .i64 0],.int .i64 ef]) (by simp [results,Tryz.results7,go_sem,u0,u1]) rfl ⟨ret_judV hv.out,hbN⟩
 subst he
 by_cases hw1:why=1
 case pos =>
  have hv:=Lib.hid (Hjs.out rfl hw1)
  have tw:(why==1)=true:=by rw [beq_iff_eq];exact hw1
  clear hw1
  obtain ⟨x0,x1,z0,z1⟩:=BR.two_
  have BN:=put2_blk BR (.int .i64 (-1)) (.int .i64 1)
  have hbN:=put2_below hb (g:=W.heap.size+1) (by omega) (.int .i64 (-1)) (.int .i64 1)
  go_wp2_with fail
  change bodyPost _ _ _ _ _ (put2 w3 (W.heap.size+1) (.int .i64 (-1)) (.int .i64 1))
  generalize put2 w3 (W.heap.size+1) (.int .i64 (-1)) (.int .i64 1)=w4 at *
  obtain ⟨u0,u1,-,-⟩:=BN.two_
  exact bodyPost_ret (v := .tuple #[.agg #[.int .i64 (-1),.int .i64 1],.int .i64 0]) (by simp [results,Tryz.results7,go_sem,u0,u1]) rfl ⟨ret_judV hv.out,hbN⟩
 have tw:(why==1)=false:=by rw [beq_eq_false_iff_ne];exact hw1
 have Hw1:=Lib.hid hw1
 have Hll:=Lib.hid (Hjl.out rfl hw1)
 have hjj:=Hcr.out rfl
 have hn2:=Hn2.out rfl
 have Hjj:=Lib.hid hjj
 obtain ⟨bj,oj,cj,h5',hbj,hL⟩:=h.jobLoad (by omega)
 clear hjj hw1 Hjd Hjs Hjl Hcr Hn2
 go_upto_region 8 with fail
 clear tw
 go_wp2_with fail
 go_loopw [9] (fun lg wr=>∃ i:Nat,i≤a.lim l∧lg = .int .i64 i∧Below W.heap.size W wr∧Blk wr W.heap.size 33 cs∧Blk wr (W.heap.size+1) 37 #[.int .i64 0,.int .i64 0]∧Hid (a.okTo l i)) (fun lg _=>a.lim l - (intOf lg).toNat)
 case atStart=>exact ⟨0,Nat.zero_le _,rfl,hb,BC,BR,Lib.hid (fun j hj=>absurd hj (by omega))⟩
 case round =>
  clear hb BC BR
  obtain ⟨i,hin,rfl,hb,BC,BR,hok⟩:=hrel
  go_upto_region 9 with fail
  go_cut [42] from 30 to 41 (fun s42 wc=>s42 = .bool (decide (i<a.lim l))∧wc=wr)
  case first =>
   have hlo:=Hll.out
   by_cases h0:why=0
   ·have t0:(why==0)=true:=by rw [beq_iff_eq];exact h0
    have hlm:a.lim l=l.length:=by rw [hlim.out,if_pos h0]
    by_cases h1:i<l.length
    ·have t1:(i:Int)<(l.length:Int):=by omega
     have e1:Hid (decide (i<a.lim l)=true):=Lib.hid (decide_eq_true (by omega))
     have d1:decide ((i:Int)<(l.length:Int))=true:=decide_eq_true t1
     clear hlm h0 hlo
     go_wp2_with fail
     go_meet
     exact ⟨by rw [e1.out],rfl⟩
    ·have t1:¬(i:Int)<(l.length:Int):=by omega
     have e1:Hid (decide (i<a.lim l)=false):=Lib.hid (decide_eq_false (by omega))
     have d1:decide ((i:Int)<(l.length:Int))=false:=decide_eq_false t1
     clear hlm h0 hlo
     go_wp2_with fail
     go_meet
     exact ⟨by rw [e1.out],rfl⟩
   ·have t0:(why==0)=false:=by rw [beq_eq_false_iff_ne];exact h0
    have hlm:a.lim l=ck.toNat:=by rw [hlim.out,if_neg h0]
    by_cases h1:i<l.length
    ·have t1:(i:Int)<(l.length:Int):=by omega
     have d1:decide ((i:Int)<(l.length:Int))=true:=decide_eq_true t1
     by_cases h2:(i:Int)<ck
     ·have e1:Hid (decide (i<a.lim l)=true):=Lib.hid (decide_eq_true (by omega))
      have d2:decide ((i:Int)<ck)=true:=decide_eq_true h2
      clear hlm h0 hlo
      go_wp2_with fail
      go_meet
      exact ⟨by rw [e1.out],rfl⟩
     ·have e1:Hid (decide (i<a.lim l)=false):=Lib.hid (decide_eq_false (by omega))
      have d2:decide ((i:Int)<ck)=false:=decide_eq_false h2
      clear hlm h0 hlo
      go_wp2_with fail
      go_meet
      exact ⟨by rw [e1.out],rfl⟩
    ·have t1:¬(i:Int)<(l.length:Int):=by omega
     have e1:Hid (decide (i<a.lim l)=false):=Lib.hid (decide_eq_false (by omega))
     have d1:decide ((i:Int)<(l.length:Int))=false:=decide_eq_false t1
     clear hlm h0 hlo
     go_wp2_with fail
     go_meet
     exact ⟨by rw [e1.out],rfl⟩
  case rest =>
  obtain ⟨rfl,rfl⟩:=hcut
  by_cases hlt:i<a.lim l
  case neg =>
   have hie:i=a.lim l:=by omega
   subst hie
   have hv:=Lib.hid (Hjm.out (by trivial) Hw1.out hok.out)
   rw [decide_eq_false hlt]
   obtain ⟨x0,x1,z0,z1⟩:=BR.two_
   by_cases h0:why=0
   ·have t0:(why != 0)=false:=by rw [bne_eq_false_iff_eq];exact h0
    have hv2:Hid (R=(-1,0,0)):=Lib.hid (by rw [hv.out,if_pos h0])
    have BN:=put2_blk BR (.int .i64 (-1)) (.int .i64 0)
    have hbN:=put2_below hb (g:=W.heap.size+1) (by omega) (.int .i64 (-1)) (.int .i64 0)
    clear h0
    go_wp2_with fail
    change bodyPost _ _ _ _ _ (put2 wc (W.heap.size+1) (.int .i64 (-1)) (.int .i64 0))
    generalize put2 wc (W.heap.size+1) (.int .i64 (-1)) (.int .i64 0)=w4 at *
    obtain ⟨u0,u1,-,-⟩:=BN.two_
    exact bodyPost_ret (v := .tuple #[.agg #[.int .i64 (-1),.int .i64 0],.int .i64 0]) (by simp [results,Tryz.results7,go_sem,u0,u1]) rfl ⟨ret_judV hv2.out,hbN⟩
   ·have t0:(why != 0)=true:=by rw [bne_iff_ne];exact h0
    have hv2:Hid (R=(ck,why,0)):=Lib.hid (by rw [hv.out,if_neg h0])
    have BN:=put2_blk BR (.int .i64 ck) (.int .i64 why)
    have hbN:=put2_below hb (g:=W.heap.size+1) (by omega) (.int .i64 ck) (.int .i64 why)
    clear h0
    go_wp2_with fail
    change bodyPost _ _ _ _ _ (put2 wc (W.heap.size+1) (.int .i64 ck) (.int .i64 why))
    generalize put2 wc (W.heap.size+1) (.int .i64 ck) (.int .i64 why)=w4 at *
    obtain ⟨u0,u1,-,-⟩:=BN.two_
    exact bodyPost_ret (v := .tuple #[.agg #[.int .i64 ck,.int .i64 why],.int .i64 0]) (by simp [results,Tryz.results7,go_sem,u0,u1]) rfl ⟨ret_judV hv2.out,hbN⟩
  rw [decide_eq_true hlt]
  have hil:i<l.length:=by have:=Hll.out;omega
  obtain ⟨jc,hjc⟩:∃ jc,Hid (jcs[i]?=some jc):=⟨_,Lib.hid (List.getElem?_eq_getElem (by rw [h.jlen,Hjj.out];exact hil))⟩
  obtain ⟨a1,a2,a3,a4⟩:=h.job i jc hjc.out
  have hLc:=(hL i jc hjc.out).2
  have LJ:(Instr.loadAt 55 (.pointer (some ⟨bj,oj+i*49,none⟩))).run Tryz.prog wc = .ok (.agg jc) wc:=by
   have:=run_loadAt_mid (P:=Tryz.prog) wc bj (oj+i*49) 55 jc.toList _ (fun j u hj=>(hb.cell (p:=⟨bj,oj+i*49+j,none⟩) hbj).trans (hLc j u (by simpa using hj))) Tryz.underlying55 rfl (by rw [Array.length_toList,a1];exact job_info)
   rwa [Array.toArray_toList] at this
  have y5:=(BC.cell 5).trans h5'
  have z0:(0:Int)≤(i:Int):=by omega
  have z1:(i:Int)<(a.c.jobs.length:Int):=by have:=Hjj.out;omega
  have qe:=ref_empty jc (a.c.jobAt i).emptyB wc (a3.lens3 a4)
  clear hLc
  go_upto_region 11 with fail
  apply wp_region_lit
  iterate 12 go_step
  refine wpList_loadG (by rfl) (by rfl) (by rfl) LJ ?_
  simp only [Act.put,List.setIfInBounds_toArray,List.set_cons_zero,List.set_cons_succ]
  clear LJ
  cases hem:(a.c.jobAt i).emptyB
  case true =>
   rw [hem] at qe
   have hok2:Hid (a.okTo l (i+1)):=Lib.hid (okTo_step hok.out (by unfold Ca.wrong;rw [hem];rfl))
   clear hem
   go_wp2_with fail
   (with_reducible refine qe.mono ?_)
   rintro e w9 ⟨rfl,b9⟩
   go_wp2_with fail
   exact ⟨⟨i+1,hlt,by go_num,bCall hb b9,BC.below b9 BC.lt,BR.below b9 BR.lt,hok2⟩,by simp [intOf];omega⟩
  rw [hem] at qe
  have Hem:=Lib.hid hem
  clear hem
  go_wp2_with fail
  (with_reducible refine qe.mono ?_)
  rintro e w9 ⟨rfl,b9⟩
  replace BC:=BC.below b9 BC.lt
  replace BR:=BR.below b9 BR.lt
  replace hb:=bCall hb b9
  clear b9 qe y5
  have LC:=load_case BC h.size
  have qh:=ref_hand56 a l Al cl cs jcs w9 ((CA.below hb).more hb.size) ((hl.below hb).more hb.size) hln (by have:=Hlk.out;omega) Hjj.out i hil
  obtain ⟨rr,hrr⟩:∃ rr,Hid (rr=a.right l i):=⟨_,Lib.hid rfl⟩
  rw [←hrr.out] at qh
  dsimp only
  (refine ‹∀ (a:Act) (w:World),wpList _ _ _ _ a w→_› _ _ ?_)
  iterate 8 go_step
  refine wpList_loadG (by rfl) (by rfl) (by rfl) LC ?_
  simp only [Act.put,List.setIfInBounds_toArray,List.set_cons_zero,List.set_cons_succ]
  clear LC
  go_wp2_with fail
  (with_reducible refine qh.mono ?_)
  rintro e w10 ⟨rfl,b10⟩
  clear qh
  replace BC:=BC.below b10 BC.lt
  replace BR:=BR.below b10 BR.lt
  replace hb:=bCall hb b10
  clear b10
  cases rr
  ·have hv:=Lib.hid (Hjh.out (by trivial) Hw1.out i hlt hok.out (by unfold Ca.wrong;rw [Hem.out,←hrr.out];rfl))
   obtain ⟨x0,x1,z0',z1'⟩:=BR.two_
   have BN:=put2_blk BR (.int .i64 i) (.int .i64 2)
   have hbN:=put2_below hb (g:=W.heap.size+1) (by omega) (.int .i64 i) (.int .i64 2)
   go_wp2_with fail
   change bodyPost _ _ _ _ _ (put2 w10 (W.heap.size+1) (.int .i64 i) (.int .i64 2))
   generalize put2 w10 (W.heap.size+1) (.int .i64 i) (.int .i64 2)=w4 at *
   obtain ⟨u0,u1,-,-⟩:=BN.two_
   exact bodyPost_ret (v := .tuple #[.agg #[.int .i64 i,.int .i64 2],.int .i64 0]) (by simp [results,Tryz.results7,go_sem,u0,u1]) rfl ⟨ret_judV hv.out,hbN⟩
  ·have hok2:Hid (a.okTo l (i+1)):=Lib.hid (okTo_step hok.out (by unfold Ca.wrong;rw [Hem.out,←hrr.out];rfl))
   go_wp2_with fail
   exact ⟨⟨i+1,hlt,by go_num,hb,BC,BR,hok2⟩,by simp [intOf];omega⟩
end Go.Proofs.YtoeobcmmafncmaaGreatDoor

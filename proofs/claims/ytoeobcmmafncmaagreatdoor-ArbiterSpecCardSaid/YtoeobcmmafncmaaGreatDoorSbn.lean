/- frankingref56.Hand, walked. -/
import Derived.Test.YtoeobcmmafncmaaGreatDoorSbi
import Derived.Test.YtoeobcmmafncmaaGreatDoorSbk
import Derived.Test.YtoeobcmmafncmaaGreatDoorSbm
set_option maxRecDepth 1000000
set_option maxHeartbeats 16000000
namespace Go.Proofs.YtoeobcmmafncmaaGreatDoor
open Go.RowKit
theorem right_parts2 (a:Ca) (l:List Int) (k:Nat):a.right l k=((a.handAt k).signed (a.c.keyAt k)&&(decide ((a.handAt k).line=a.line∧(a.handAt k).at_=a.at_∧(a.handAt k).arrive=a.arrive)&&(((a.handAt k).leg==(k:Int))&&(((a.handAt k).from_==offAt l k)&&(((a.handAt k).to_==nextOff l k)&&(((a.handAt k).many==((a.c.jobAt k).mo.length:Int))&&decide ((a.handAt k).root=rootL (a.c.jobAt k).mo))))))):=by
 unfold Ca.right
 have e:∀ x y:Int,(x==y)=decide (x=y):=fun _ _=>rfl
 rw [e,e,e,e]
 generalize decide ((a.handAt k).line=a.line∧(a.handAt k).at_=a.at_∧(a.handAt k).arrive=a.arrive)=p1
 generalize decide ((a.handAt k).leg=(k:Int))=p2
 generalize decide ((a.handAt k).from_=offAt l k)=p3
 generalize decide ((a.handAt k).many=((a.c.jobAt k).mo.length:Int))=p4
 generalize decide ((a.handAt k).root=rootL (a.c.jobAt k).mo)=p5
 generalize decide ((a.handAt k).to_=nextOff l k)=p6
 generalize (a.handAt k).signed (a.c.keyAt k)=p7
 cases p1 <;> cases p2 <;> cases p3 <;> cases p4 <;> cases p5 <;> cases p6 <;> cases p7 <;> rfl
theorem ref_hand56 (a:Ca) (l:List Int) (Al:Option Addr) (cl:Nat) (cs:Array Value) (jcs:List (Array Value)) (W:World) (CA:CaAt W W.heap.size cs jcs a) (hl:Rd W W.heap.size 1 Al l.length (ints l)) (hln:l.length≤1000) (hkl:a.c.keys.length=l.length) (hjl:a.c.jobs.length=l.length)
  (i:Nat) (hi:i<l.length):Calls Tryz.prog 18 #[.slice Al l.length cl,.agg cs,.int .i64 (i:Nat)] W (Ret (.bool (a.right l i)) W):=by
 have h:=CA.c
 have BC:=Blk.new W 33 cs _ rfl
 have hb:=bAl (bRefl W) (.cells cs 33)
 obtain ⟨AK,ckk,k4,hRK⟩:=h.keys
 obtain ⟨bj,oj,cj,h5',hbj,hL⟩:=h.jobLoad (by omega)
 obtain ⟨jc,hjc⟩:∃ jc,jcs[i]?=some jc:=⟨_,List.getElem?_eq_getElem (by rw [h.jlen];omega)⟩
 obtain ⟨a1,a2,a3,a4⟩:=h.job i jc hjc
 have hLc:=(hL i jc hjc).2
 obtain ⟨hd,hhd⟩:∃ hd,a.hs[i]?=some hd:=⟨_,List.getElem?_eq_getElem (by rw [CA.hl];omega)⟩
 have hha:a.handAt i=hd:=by unfold Ca.handAt;rw [List.getD_eq_getElem?_getD,hhd];rfl
 have hho:=CA.hok hd (List.mem_of_getElem? hhd)
 have hjh:=CA.hand i jc hd hjc hhd
 have hrp:=right_parts2 a l i
 rw [hha] at hrp
 obtain ⟨ky,hky⟩:∃ ky,a.c.keys[i]?=some ky:=⟨_,List.getElem?_eq_getElem (by omega)⟩
 have hkk:a.c.keyAt i=ky:=by unfold Cs.keyAt;rw [List.getD_eq_getElem?_getD,hky];rfl
 rw [hkk] at hrp
 obtain ⟨bk,offk,rfl,hbk,d1⟩:=Int_at hRK (by omega) hky
 obtain ⟨fx,hfx⟩:∃ fx,l[i]?=some fx:=⟨_,List.getElem?_eq_getElem (by omega)⟩
 have hof:offAt l i=fx:=by unfold offAt;rw [List.getD_eq_getElem?_getD,hfx];rfl
 rw [hof] at hrp
 obtain ⟨bl,offl,rfl,hbl,d2⟩:=Int_at hl (by omega) hfx
 obtain ⟨Am,cm,u4,hR4⟩:=a3.h4
 have hmo:=CA.lok i
 have hml:=CA.mlen i
 have hro:=hho.2.2.2.2.2.2.2.1.1
 have hkio:=CA.kok ky (List.mem_of_getElem? hky)
 obtain ⟨hc,hhc⟩:∃ hc,hc=hd.cl.toArray:=⟨_,rfl⟩
 have q1:Hid (∀ w,Calls Tryz.prog 41 #[.int .i64 ky,.agg hc] w (Ret (.bool (hd.signed ky)) w)):=Lib.hid (fun w=>by rw [hhc];exact ref_check48 ky hd hho hkio w)
 have q2:Hid (∀ w,Below W.heap.size W w→Calls Tryz.prog 42 #[.slice Am (a.c.jobAt i).mo.length cm] w (Ret (.agg (byts (rootL (a.c.jobAt i).mo)).toArray) w)):=Lib.hid (fun w hw=>ref_root48 Am cm _ hmo w ((hR4.1.below hw).more hw.size) hml)
 have hsz:hc.size=42:=by rw [hhc,List.size_toArray,Hd.cl_length hho]
 have hone:∀ v∈hc.toList,v.oneCell'=true:=by rw [hhc];exact hd.one
 have hf:=Lib.hid (fun (w:World) (g:Nat) (B:Blk w g 53 hc)=>HdAt.of B hhc hho)
 have hfd:Hid (∀ (w:World) (g:Nat),Blk w g 53 hc→(Instr.loadAt 49 (.pointer (some ⟨g,7,none⟩))).run Tryz.prog w = .ok (.agg (byts hd.root).toArray) w):=Lib.hid (fun w g B=>load_dig hro (fun j v hv=>by
  have hj:j<32:=by have:=(List.getElem?_eq_some_iff.1 hv).1;rwa [byts_length,hro] at this
  rw [B.cell,hhc,List.getElem?_toArray,(Hd.cells hho).2.2.2.2.2.2.2.1 j hj];exact hv))
 have LH:∀ w,Below W.heap.size W w→(Instr.loadAt 53 (.pointer (some ⟨bj,oj+i*49+7,none⟩))).run Tryz.prog w = .ok (.agg hc) w:=fun w hw=>by
  have:=run_loadAt_mid (P:=Tryz.prog) w bj (oj+i*49+7) 53 hd.cl _ (fun j v hv=>by
   have:=hLc (7+j) v (hjh j v hv)
   rw [←Nat.add_assoc] at this
   exact (hw.cell (p:=⟨bj,oj+i*49+7+j,none⟩) hbj).trans this) Tryz.underlying53 rfl (by rw [Hd.cl_length hho];exact hand_info)
  rw [hhc];exact this
 have d4:W.cell? ⟨bj,oj+i*49+4,none⟩=some (.slice Am (a.c.jobAt i).mo.length cm):=hLc 4 _ u4
 have hq1:=fun w=>eqRun hd.line hd.at_ hd.arrive a.line a.at_ a.arrive w
 have hq5:=fun w=>run_eqD hd.root (rootL (a.c.jobAt i).mo) hro (rootN_ok _).1 w
 obtain ⟨nx,hnx⟩:∃ nx,nextOff l i=nx:=⟨_,rfl⟩
 rw [hnx] at hrp
 obtain ⟨S,hS⟩:∃ S,S=hd.signed ky:=⟨_,rfl⟩
 obtain ⟨r1,hr1⟩:∃ r,r=decide (hd.line=a.line∧hd.at_=a.at_∧hd.arrive=a.arrive):=⟨_,rfl⟩
 obtain ⟨r2,hr2⟩:∃ r,(hd.leg==(i:Int))=r:=⟨_,rfl⟩
 obtain ⟨r3,hr3⟩:∃ r,(hd.from_==fx)=r:=⟨_,rfl⟩
 obtain ⟨r6,hr6⟩:∃ r,(hd.to_==nx)=r:=⟨_,rfl⟩
 obtain ⟨r4,hr4⟩:∃ r,(hd.many==((a.c.jobAt i).mo.length:Int))=r:=⟨_,rfl⟩
 obtain ⟨r5,hr5⟩:∃ r,r=decide (hd.root=rootL (a.c.jobAt i).mo):=⟨_,rfl⟩
 rw [←hS,←hr1,hr2,hr3,hr6,hr4,←hr5] at hrp
 rw [←hS] at q1
 rw [←hr1] at hq1
 rw [←hr5] at hq5
 have Hrp:=Lib.hid hrp
 have Hnx:=Lib.hid hnx
 generalize (byts (rootL (a.c.jobAt i).mo)).toArray=XR at *
 generalize (byts hd.root).toArray=XD at *
 have z0:(0:Int)≤(i:Int):=by omega
 have z1:(i:Int)<(a.c.jobs.length:Int):=by omega
 have z2:(i:Int)<(a.c.keys.length:Int):=by omega
 have z3:(i:Int)<(l.length:Int):=by omega
 clear hrp hnx hS hr1 hr5 hhd hha hho hjh hky hkk hof hhc hro hkio hmo hml u4 hR4 hLc hL hjc a1 a2 a3 a4 hRK
 go_enter Tryz.func18,Tryz.ntmps18
 go_upto_region 1 with fail
 generalize W.alloc (.cells cs 33)=w1 at *
 have y5:=(BC.cell 5).trans h5'
 have L1:=LH w1 hb
 apply wp_region_lit
 iterate 15 go_step
 refine wpList_loadG (by rfl) (by rfl) (by rfl) L1 ?_
 simp only [Act.put,List.setIfInBounds_toArray,List.set_cons_zero,List.set_cons_succ]
 iterate 3 go_step
 refine wpList_storeG (by rfl) (by rfl) (by rfl) (by rfl) (store_newW (by rw [hsz];exact hand_info) (by rw [hsz];rfl) hone) ?_
 simp only [Act.put]
 have BH:=Blk.new w1 53 hc _ rfl
 have BC2:=BC.alloc (.cells hc 53)
 have hb2:=bAl hb (.cells hc 53)
 have hjb:W.heap.size<w1.heap.size:=BC.lt
 clear y5 L1 LH BC hb
 generalize w1.alloc (.cells hc 53)=w5 at *
 generalize w1.heap.size=jb at *
 have f1:IntKind.i64.wrap ((i:Int)+1)=(i:Int)+1:=by rw [IntKind.wrap_i64];omega
 go_upto_if 20 with fail
 go_cut [8] (fun s8 wc=>s8 = .int .i64 nx∧wc=w5)
 case first =>
  by_cases hnl:i+1<l.length
  ·obtain ⟨ny,hny⟩:∃ ny,l[i+1]?=some ny:=⟨_,List.getElem?_eq_getElem hnl⟩
   have hno:Hid (ny=nx):=Lib.hid (by rw [←Hnx.out];unfold nextOff;rw [List.getD_eq_getElem?_getD,hny];rfl)
   obtain ⟨b2,o2,e2,_,hc2⟩:=hl.2 (by omega)
   injection e2 with e2
   injection e2 with e3 e4
   subst e3;subst e4
   have d3:=(hb2.cell (p:=⟨bl,offl+(i+1),none⟩) hbl).trans (hc2 (i+1) _ (ints_at hny))
   have f2:((i:Int)+1).toNat=i+1:=by omega
   have f3:(0:Int)≤(i:Int)+1:=by omega
   have f4:(i:Int)+1<(l.length:Int):=by omega
   clear hny hc2
   go_wp2_with fail
   go_meet
   exact ⟨by rw [hno.out],rfl⟩
  ·have hno:Hid (-1=nx):=Lib.hid (by rw [←Hnx.out];unfold nextOff;rw [List.getD_eq_getElem?_getD,List.getElem?_eq_none (by omega)];rfl)
   have f4:¬(i:Int)+1<(l.length:Int):=by omega
   go_wp2_with fail
   go_meet
   exact ⟨by rw [hno.out],rfl⟩
 case rest =>
 obtain ⟨rfl,rfl⟩:=hcut
 clear f1
 have y5:=(BC2.cell 5).trans h5'
 have d3:=(hb2.cell (p:=⟨bj,oj+i*49+4,none⟩) hbj).trans d4
 go_upto_region 6 with fail
 have hb:=hb2
 have KS:Hid (∀ w',Below wc.heap.size wc w'→(Instr.loadAt 53 (.pointer (some ⟨jb,0,none⟩))).run Tryz.prog w' = .ok (.agg hc) w'∧(Instr.loadAt 49 (.pointer (some ⟨jb,7,none⟩))).run Tryz.prog w' = .ok (.agg XD) w'∧w'.cell? ⟨W.heap.size,4,none⟩=some (.slice (some ⟨bk,offk,none⟩) a.c.keys.length ckk)∧w'.cell? ⟨bk,offk+i,none⟩=some (.int .i64 ky)∧w'.cell? ⟨jb,0,none⟩=some (.int .i64 hd.line)∧w'.cell? ⟨jb,1,none⟩=some (.int .i64 hd.at_)∧w'.cell? ⟨jb,2,none⟩=some (.int .i64 hd.arrive)∧w'.cell? ⟨W.heap.size,0,none⟩=some (.int .i64 a.line)∧w'.cell? ⟨W.heap.size,1,none⟩=some (.int .i64 a.at_)∧w'.cell? ⟨W.heap.size,2,none⟩=some (.int .i64 a.arrive)∧w'.cell? ⟨jb,3,none⟩=some (.int .i64 hd.leg)∧w'.cell? ⟨jb,4,none⟩=some (.int .i64 hd.from_)∧w'.cell? ⟨bl,offl+i,none⟩=some (.int .i64 fx)∧w'.cell? ⟨jb,5,none⟩=some (.int .i64 hd.to_)∧w'.cell? ⟨jb,6,none⟩=some (.int .i64 hd.many)):=Lib.hid (fun w' b=>by
  have B:=BH.below b BH.lt
  have C:=BC2.below b BC2.lt
  have hw:=bCall hb b
  have H:=hf.out w' jb B
  exact ⟨load_blk B Tryz.underlying53 rfl (by rw [hsz];exact hand_info),hfd.out w' jb B,(C.cell 4).trans k4,(hw.cell (p:=⟨bk,offk+i,none⟩) hbk).trans d1,H.c0,H.c1,H.c2,(C.cell 0).trans CA.run0,(C.cell 1).trans CA.run1,(C.cell 2).trans CA.run2,H.c3,H.c4,(hw.cell (p:=⟨bl,offl+i,none⟩) hbl).trans d2,H.c5,H.c6⟩)
 clear y5 d3 d1 d2 d4
 cases S
 case false =>
  refine wp_region_schB (f:=49) KS [(0,1),(1,2),(2,1),(3,1),(4,2),(5,2),(6,0),(7,1),(8,1),(9,1),(10,1),(11,1),(12,1),(13,1),(14,1),(15,1),(16,1),(17,1),(18,1),(19,1),(20,1),(21,1),(22,1),(23,1),(24,1),(25,1),(26,1),(27,1),(28,1),(29,1),(30,1),(31,1),(32,1),(33,1),(34,1),(35,1),(36,1),(37,1),(38,1),(39,1),(40,1),(41,1),(42,1),(43,1),(44,1),(45,1),(46,1),(47,1),(48,1),(49,3)] ?_
  simp only [pickS,List.getElem?_cons_zero,List.getElem?_cons_succ]
  refine wpSched_t ?_
  refine wpSched_r ?_
  iterate 2 refine wpSched_t ?_
  refine wpSched_r ?_
  refine wpSched_r (v:=?v1) (hv:=?h1) ?_;case h1=>(intro w hSw;(first | refine (exec_load rfl rfl hSw).trans ?_ | refine (exec_load rfl rfl hSw.1).trans ?_ | refine (exec_load rfl rfl hSw.2.1).trans ?_ | refine (exec_load rfl rfl hSw.2.2.1).trans ?_ | refine (exec_load rfl rfl hSw.2).trans ?_ | refine (exec_load rfl rfl hSw.2.2).trans ?_);with_reducible rfl)
  refine wpSched_force (fun K hK=>?_)
  go_simp;(first | (go_at_call 41;(with_reducible refine (q1.out _).mono ?_);rintro e w10 ⟨rfl,b10⟩;have B7:Below wc.heap.size wc w10:=bCall (by repeat (first | with_reducible exact bRefl _ | with_reducible refine bDr ?_)) b10) | skip)
  refine shut_go hK KS ?_
  clear hK K
  refine wpSched_t ?_
  iterate 5 refine wpSched_p ?_
  iterate 2 refine wpSched_t ?_
  iterate 4 refine wpSched_p ?_
  iterate 2 refine wpSched_t ?_
  iterate 7 refine wpSched_p ?_
  iterate 2 refine wpSched_t ?_
  iterate 4 refine wpSched_p ?_
  iterate 2 refine wpSched_t ?_
  iterate 5 refine wpSched_p ?_
  iterate 2 refine wpSched_t ?_
  iterate 5 refine wpSched_p ?_
  refine wpSched_t ?_
  refine wpSched_last ?_
  first | simp only [List.map_nil] | simp only [List.map_cons,List.map_nil]
  go_wp2_with fail
  refine NoPanic.normal ?_
  go_wp2_with fail
  go_ret
  exact ⟨ret_bool (by rw [Hrp.out];simp),bCall hb B7⟩
 cases r1
 case false =>
  refine wp_region_schB (f:=49) KS [(0,1),(1,2),(2,1),(3,1),(4,2),(5,2),(6,0),(7,1),(8,1),(9,2),(10,1),(11,2),(12,1),(13,1),(14,1),(15,1),(16,1),(17,1),(18,1),(19,1),(20,1),(21,1),(22,1),(23,1),(24,1),(25,1),(26,1),(27,1),(28,1),(29,1),(30,1),(31,1),(32,1),(33,1),(34,1),(35,1),(36,1),(37,1),(38,1),(39,1),(40,1),(41,1),(42,1),(43,1),(44,1),(45,1),(46,1),(47,1),(48,1),(49,3)] ?_
  simp only [pickS,List.getElem?_cons_zero,List.getElem?_cons_succ]
  refine wpSched_t ?_
  refine wpSched_r ?_
  iterate 2 refine wpSched_t ?_
  refine wpSched_r ?_
  refine wpSched_r (v:=?v2) (hv:=?h2) ?_;case h2=>(intro w hSw;(first | refine (exec_load rfl rfl hSw).trans ?_ | refine (exec_load rfl rfl hSw.1).trans ?_ | refine (exec_load rfl rfl hSw.2.1).trans ?_ | refine (exec_load rfl rfl hSw.2.2.1).trans ?_ | refine (exec_load rfl rfl hSw.2).trans ?_ | refine (exec_load rfl rfl hSw.2.2).trans ?_);with_reducible rfl)
  refine wpSched_force (fun K hK=>?_)
  go_simp;(first | (go_at_call 41;(with_reducible refine (q1.out _).mono ?_);rintro e w10 ⟨rfl,b10⟩;have B7:Below wc.heap.size wc w10:=bCall (by repeat (first | with_reducible exact bRefl _ | with_reducible refine bDr ?_)) b10) | skip)
  refine shut_go hK KS ?_
  clear hK K
  iterate 2 refine wpSched_t ?_
  refine wpSched_r ?_
  refine wpSched_t ?_
  refine wpSched_r ?_
  iterate 3 refine wpSched_t ?_
  iterate 4 refine wpSched_p ?_
  iterate 2 refine wpSched_t ?_
  iterate 7 refine wpSched_p ?_
  iterate 2 refine wpSched_t ?_
  iterate 4 refine wpSched_p ?_
  iterate 2 refine wpSched_t ?_
  iterate 5 refine wpSched_p ?_
  iterate 2 refine wpSched_t ?_
  iterate 5 refine wpSched_p ?_
  refine wpSched_t ?_
  refine wpSched_last ?_
  first | simp only [List.map_nil] | simp only [List.map_cons,List.map_nil]
  go_wp2_with fail
  refine NoPanic.normal ?_
  go_wp2_with fail
  go_ret
  exact ⟨ret_bool (by rw [Hrp.out];simp),bCall hb B7⟩
 cases r2
 case false =>
  refine wp_region_schB (f:=49) KS [(0,1),(1,2),(2,1),(3,1),(4,2),(5,2),(6,0),(7,1),(8,1),(9,2),(10,1),(11,2),(12,1),(13,1),(14,1),(15,1),(16,2),(17,1),(18,1),(19,1),(20,1),(21,1),(22,1),(23,1),(24,1),(25,1),(26,1),(27,1),(28,1),(29,1),(30,1),(31,1),(32,1),(33,1),(34,1),(35,1),(36,1),(37,1),(38,1),(39,1),(40,1),(41,1),(42,1),(43,1),(44,1),(45,1),(46,1),(47,1),(48,1),(49,3)] ?_
  simp only [pickS,List.getElem?_cons_zero,List.getElem?_cons_succ]
  refine wpSched_t ?_
  refine wpSched_r ?_
  iterate 2 refine wpSched_t ?_
  refine wpSched_r ?_
  refine wpSched_r (v:=?v3) (hv:=?h3) ?_;case h3=>(intro w hSw;(first | refine (exec_load rfl rfl hSw).trans ?_ | refine (exec_load rfl rfl hSw.1).trans ?_ | refine (exec_load rfl rfl hSw.2.1).trans ?_ | refine (exec_load rfl rfl hSw.2.2.1).trans ?_ | refine (exec_load rfl rfl hSw.2).trans ?_ | refine (exec_load rfl rfl hSw.2.2).trans ?_);with_reducible rfl)
  refine wpSched_force (fun K hK=>?_)
  go_simp;(first | (go_at_call 41;(with_reducible refine (q1.out _).mono ?_);rintro e w10 ⟨rfl,b10⟩;have B7:Below wc.heap.size wc w10:=bCall (by repeat (first | with_reducible exact bRefl _ | with_reducible refine bDr ?_)) b10) | skip)
  refine shut_go hK KS ?_
  clear hK K
  iterate 2 refine wpSched_t ?_
  refine wpSched_r ?_
  refine wpSched_t ?_
  refine wpSched_r ?_
  iterate 4 refine wpSched_t ?_
  refine wpSched_r ?_
  iterate 4 refine wpSched_t ?_
  iterate 7 refine wpSched_p ?_
  iterate 2 refine wpSched_t ?_
  iterate 4 refine wpSched_p ?_
  iterate 2 refine wpSched_t ?_
  iterate 5 refine wpSched_p ?_
  iterate 2 refine wpSched_t ?_
  iterate 5 refine wpSched_p ?_
  refine wpSched_t ?_
  refine wpSched_last ?_
  first | simp only [List.map_nil] | simp only [List.map_cons,List.map_nil]
  go_wp2_with fail
  refine NoPanic.normal ?_
  go_wp2_with fail
  go_ret
  exact ⟨ret_bool (by rw [Hrp.out];simp),bCall hb B7⟩
 cases r3
 case false =>
  refine wp_region_schB (f:=49) KS [(0,1),(1,2),(2,1),(3,1),(4,2),(5,2),(6,0),(7,1),(8,1),(9,2),(10,1),(11,2),(12,1),(13,1),(14,1),(15,1),(16,2),(17,1),(18,1),(19,1),(20,1),(21,1),(22,2),(23,1),(24,1),(25,1),(26,2),(27,1),(28,1),(29,1),(30,1),(31,1),(32,1),(33,1),(34,1),(35,1),(36,1),(37,1),(38,1),(39,1),(40,1),(41,1),(42,1),(43,1),(44,1),(45,1),(46,1),(47,1),(48,1),(49,3)] ?_
  simp only [pickS,List.getElem?_cons_zero,List.getElem?_cons_succ]
  refine wpSched_t ?_
  refine wpSched_r ?_
  iterate 2 refine wpSched_t ?_
  refine wpSched_r ?_
  refine wpSched_r (v:=?v4) (hv:=?h4) ?_;case h4=>(intro w hSw;(first | refine (exec_load rfl rfl hSw).trans ?_ | refine (exec_load rfl rfl hSw.1).trans ?_ | refine (exec_load rfl rfl hSw.2.1).trans ?_ | refine (exec_load rfl rfl hSw.2.2.1).trans ?_ | refine (exec_load rfl rfl hSw.2).trans ?_ | refine (exec_load rfl rfl hSw.2.2).trans ?_);with_reducible rfl)
  refine wpSched_force (fun K hK=>?_)
  go_simp;(first | (go_at_call 41;(with_reducible refine (q1.out _).mono ?_);rintro e w10 ⟨rfl,b10⟩;have B7:Below wc.heap.size wc w10:=bCall (by repeat (first | with_reducible exact bRefl _ | with_reducible refine bDr ?_)) b10) | skip)
  refine shut_go hK KS ?_
  clear hK K
  iterate 2 refine wpSched_t ?_
  refine wpSched_r ?_
  refine wpSched_t ?_
  refine wpSched_r ?_
  iterate 4 refine wpSched_t ?_
  refine wpSched_r ?_
  iterate 5 refine wpSched_t ?_
  refine wpSched_r ?_
  iterate 3 refine wpSched_t ?_
  refine wpSched_r ?_
  iterate 3 refine wpSched_t ?_
  iterate 4 refine wpSched_p ?_
  iterate 2 refine wpSched_t ?_
  iterate 5 refine wpSched_p ?_
  iterate 2 refine wpSched_t ?_
  iterate 5 refine wpSched_p ?_
  refine wpSched_t ?_
  refine wpSched_last ?_
  first | simp only [List.map_nil] | simp only [List.map_cons,List.map_nil]
  go_wp2_with fail
  refine NoPanic.normal ?_
  go_wp2_with fail
  go_ret
  exact ⟨ret_bool (by rw [Hrp.out];simp),bCall hb B7⟩
 cases r6
 case false =>
  refine wp_region_schB (f:=49) KS [(0,1),(1,2),(2,1),(3,1),(4,2),(5,2),(6,0),(7,1),(8,1),(9,2),(10,1),(11,2),(12,1),(13,1),(14,1),(15,1),(16,2),(17,1),(18,1),(19,1),(20,1),(21,1),(22,2),(23,1),(24,1),(25,1),(26,2),(27,1),(28,1),(29,1),(30,1),(31,2),(32,1),(33,1),(34,1),(35,1),(36,1),(37,1),(38,1),(39,1),(40,1),(41,1),(42,1),(43,1),(44,1),(45,1),(46,1),(47,1),(48,1),(49,3)] ?_
  simp only [pickS,List.getElem?_cons_zero,List.getElem?_cons_succ]
  refine wpSched_t ?_
  refine wpSched_r ?_
  iterate 2 refine wpSched_t ?_
  refine wpSched_r ?_
  refine wpSched_r (v:=?v5) (hv:=?h5) ?_;case h5=>(intro w hSw;(first | refine (exec_load rfl rfl hSw).trans ?_ | refine (exec_load rfl rfl hSw.1).trans ?_ | refine (exec_load rfl rfl hSw.2.1).trans ?_ | refine (exec_load rfl rfl hSw.2.2.1).trans ?_ | refine (exec_load rfl rfl hSw.2).trans ?_ | refine (exec_load rfl rfl hSw.2.2).trans ?_);with_reducible rfl)
  refine wpSched_force (fun K hK=>?_)
  go_simp;(first | (go_at_call 41;(with_reducible refine (q1.out _).mono ?_);rintro e w10 ⟨rfl,b10⟩;have B7:Below wc.heap.size wc w10:=bCall (by repeat (first | with_reducible exact bRefl _ | with_reducible refine bDr ?_)) b10) | skip)
  refine shut_go hK KS ?_
  clear hK K
  iterate 2 refine wpSched_t ?_
  refine wpSched_r ?_
  refine wpSched_t ?_
  refine wpSched_r ?_
  iterate 4 refine wpSched_t ?_
  refine wpSched_r ?_
  iterate 5 refine wpSched_t ?_
  refine wpSched_r ?_
  iterate 3 refine wpSched_t ?_
  refine wpSched_r ?_
  iterate 4 refine wpSched_t ?_
  refine wpSched_r ?_
  iterate 4 refine wpSched_t ?_
  iterate 5 refine wpSched_p ?_
  iterate 2 refine wpSched_t ?_
  iterate 5 refine wpSched_p ?_
  refine wpSched_t ?_
  refine wpSched_last ?_
  first | simp only [List.map_nil] | simp only [List.map_cons,List.map_nil]
  go_wp2_with fail
  refine NoPanic.normal ?_
  go_wp2_with fail
  go_ret
  exact ⟨ret_bool (by rw [Hrp.out];simp),bCall hb B7⟩
 cases r4
 case false =>
  refine wp_region_schB (f:=49) KS [(0,1),(1,2),(2,1),(3,1),(4,2),(5,2),(6,0),(7,1),(8,1),(9,2),(10,1),(11,2),(12,1),(13,1),(14,1),(15,1),(16,2),(17,1),(18,1),(19,1),(20,1),(21,1),(22,2),(23,1),(24,1),(25,1),(26,2),(27,1),(28,1),(29,1),(30,1),(31,2),(32,1),(33,1),(34,1),(35,1),(36,1),(37,2),(38,1),(39,1),(40,1),(41,1),(42,1),(43,1),(44,1),(45,1),(46,1),(47,1),(48,1),(49,3)] ?_
  simp only [pickS,List.getElem?_cons_zero,List.getElem?_cons_succ]
  refine wpSched_t ?_
  refine wpSched_r ?_
  iterate 2 refine wpSched_t ?_
  refine wpSched_r ?_
  refine wpSched_r (v:=?v6) (hv:=?h6) ?_;case h6=>(intro w hSw;(first | refine (exec_load rfl rfl hSw).trans ?_ | refine (exec_load rfl rfl hSw.1).trans ?_ | refine (exec_load rfl rfl hSw.2.1).trans ?_ | refine (exec_load rfl rfl hSw.2.2.1).trans ?_ | refine (exec_load rfl rfl hSw.2).trans ?_ | refine (exec_load rfl rfl hSw.2.2).trans ?_);with_reducible rfl)
  refine wpSched_force (fun K hK=>?_)
  go_simp;(first | (go_at_call 41;(with_reducible refine (q1.out _).mono ?_);rintro e w10 ⟨rfl,b10⟩;have B7:Below wc.heap.size wc w10:=bCall (by repeat (first | with_reducible exact bRefl _ | with_reducible refine bDr ?_)) b10) | skip)
  refine shut_go hK KS ?_
  clear hK K
  iterate 2 refine wpSched_t ?_
  refine wpSched_r ?_
  refine wpSched_t ?_
  refine wpSched_r ?_
  iterate 4 refine wpSched_t ?_
  refine wpSched_r ?_
  iterate 5 refine wpSched_t ?_
  refine wpSched_r ?_
  iterate 3 refine wpSched_t ?_
  refine wpSched_r ?_
  iterate 4 refine wpSched_t ?_
  refine wpSched_r ?_
  iterate 5 refine wpSched_t ?_
  refine wpSched_r ?_
  iterate 5 refine wpSched_t ?_
  iterate 5 refine wpSched_p ?_
  refine wpSched_t ?_
  refine wpSched_last ?_
  first | simp only [List.map_nil] | simp only [List.map_cons,List.map_nil]
  go_wp2_with fail
  refine NoPanic.normal ?_
  go_wp2_with fail
  go_ret
  exact ⟨ret_bool (by rw [Hrp.out];simp),bCall hb B7⟩
 refine wp_region_schB (f:=49) KS [(0,1),(1,2),(2,1),(3,1),(4,2),(5,2),(6,0),(7,1),(8,1),(9,2),(10,1),(11,2),(12,1),(13,1),(14,1),(15,1),(16,2),(17,1),(18,1),(19,1),(20,1),(21,1),(22,2),(23,1),(24,1),(25,1),(26,2),(27,1),(28,1),(29,1),(30,1),(31,2),(32,1),(33,1),(34,1),(35,1),(36,1),(37,2),(38,1),(39,1),(40,1),(41,1),(42,1),(43,1),(44,2),(45,1),(46,0),(47,1),(48,1),(49,3)] ?_
 simp only [pickS,List.getElem?_cons_zero,List.getElem?_cons_succ]
 refine wpSched_t ?_
 refine wpSched_r ?_
 iterate 2 refine wpSched_t ?_
 refine wpSched_r ?_
 refine wpSched_r (v:=?v7) (hv:=?h7) ?_;case h7=>(intro w hSw;(first | refine (exec_load rfl rfl hSw).trans ?_ | refine (exec_load rfl rfl hSw.1).trans ?_ | refine (exec_load rfl rfl hSw.2.1).trans ?_ | refine (exec_load rfl rfl hSw.2.2.1).trans ?_ | refine (exec_load rfl rfl hSw.2).trans ?_ | refine (exec_load rfl rfl hSw.2.2).trans ?_);with_reducible rfl)
 refine wpSched_force (fun K hK=>?_)
 go_simp;(first | (go_at_call 41;(with_reducible refine (q1.out _).mono ?_);rintro e w10 ⟨rfl,b10⟩;have B7:Below wc.heap.size wc w10:=bCall (by repeat (first | with_reducible exact bRefl _ | with_reducible refine bDr ?_)) b10) | (go_at_call 42;(with_reducible refine (q2.out _ (bCall hb B7)).mono ?_);rintro e w11 ⟨rfl,b11⟩;have B8:Below wc.heap.size wc w11:=bCall B7 b11) | skip)
 refine shut_go hK KS ?_
 clear hK K
 iterate 2 refine wpSched_t ?_
 refine wpSched_r ?_
 refine wpSched_t ?_
 refine wpSched_r ?_
 iterate 4 refine wpSched_t ?_
 refine wpSched_r ?_
 iterate 5 refine wpSched_t ?_
 refine wpSched_r ?_
 iterate 3 refine wpSched_t ?_
 refine wpSched_r ?_
 iterate 4 refine wpSched_t ?_
 refine wpSched_r ?_
 iterate 5 refine wpSched_t ?_
 refine wpSched_r ?_
 iterate 6 refine wpSched_t ?_
 refine wpSched_r (v:=?v8) (hv:=?h8) ?_;case h8=>(intro w hSw;(first | refine (exec_load rfl rfl hSw).trans ?_ | refine (exec_load rfl rfl hSw.1).trans ?_ | refine (exec_load rfl rfl hSw.2.1).trans ?_ | refine (exec_load rfl rfl hSw.2.2.1).trans ?_ | refine (exec_load rfl rfl hSw.2).trans ?_ | refine (exec_load rfl rfl hSw.2.2).trans ?_);with_reducible rfl)
 refine wpSched_t ?_
 refine wpSched_force (fun K hK=>?_)
 go_simp;(first | (go_at_call 41;(with_reducible refine (q1.out _).mono ?_);rintro e w10 ⟨rfl,b10⟩;have B7:Below wc.heap.size wc w10:=bCall (by repeat (first | with_reducible exact bRefl _ | with_reducible refine bDr ?_)) b10) | (go_at_call 42;(with_reducible refine (q2.out _ (bCall hb B7)).mono ?_);rintro e w11 ⟨rfl,b11⟩;have B8:Below wc.heap.size wc w11:=bCall B7 b11) | skip)
 refine shut_go hK KS ?_
 clear hK K
 iterate 2 refine wpSched_t ?_
 refine wpSched_last ?_
 first | simp only [List.map_nil] | simp only [List.map_cons,List.map_nil]
 go_wp2_with fail
 refine NoPanic.normal ?_
 go_wp2_with fail
 go_ret
 exact ⟨ret_bool (by rw [Hrp.out];simp),bCall hb B8⟩
end Go.Proofs.YtoeobcmmafncmaaGreatDoor

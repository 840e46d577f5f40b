/- The reference's After, walked; what it says is what the program's way says. -/
import Derived.Test.YtoeobcmmafncmaaGreatDoorSbu
import Derived.Test.YtoeobcmmafncmaaGreatDoorSbo
import Derived.Test.YtoeobcmmafncmaaGreatDoorSap
set_option maxRecDepth 1000000
set_option maxHeartbeats 16000000
namespace Go.Proofs.YtoeobcmmafncmaaGreatDoor
open Go.RowKit
def afterP (key rest:Int) (j:Jb) (s:Stp) (inn:List Ltr) (k:Nat):Int×Int :=
 if s.mid = -1 then (k,5) else if strippedB key inn j k=true then (if openedR rest inn.length j s k=true then (s.right.at_,0) else (k,4)) else (k,3)
theorem stp_info:(Tryz.prog.info? 86).map (·.size)=some 74:=by kernel_rfl
theorem stp_at {w:World} {B n k:Nat} {A:Option Addr} {l:List Stp} {s:Stp} (h:Rd w B 74 A n (l.flatMap Stp.cl)) (ho:∀ s∈l,s.ok) (hk:k<n) (hs:l[k]?=some s) :
  ∃ b off,A=some ⟨b,off,none⟩∧b<B∧∀ w',Below B w w'→(Instr.loadAt 86 (.pointer (some ⟨b,off+k*74,none⟩))).run Tryz.prog w' = .ok (.agg s.cl.toArray) w'∧w'.cell? ⟨b,off+k*74+73,none⟩=some (.int .i64 s.mid)∧w'.cell? ⟨b,off+k*74+37,none⟩=some (.int .i64 s.right.at_):=by
 obtain ⟨b,off,e,hb,hc⟩:=h.2 (by omega)
 have hm:=ho s (List.mem_of_getElem? hs)
 have key:∀ w',Below B w w'→∀ j v,s.cl[j]?=some v→w'.cell? ⟨b,off+k*74+j,none⟩=some v:=fun w' hw j v hj=>by
  rw [hw.cell (p:=⟨b,off+k*74+j,none⟩) hb,Nat.add_assoc]
  refine hc _ _ ?_
  have hj74:j<74:=by have:=(List.getElem?_eq_some_iff.1 hj).1;rw [Stp.cl_length hm] at this;exact this
  rw [flat_mem l k j s (fun y hy=>Stp.cl_length (ho y hy)) hs hj74]
  exact hj
 obtain ⟨c0,c1,c2,c3⟩:=Stp.cells hm
 exact ⟨b,off,e,hb,fun w' hw=>⟨run_loadAt_mid _ b (off+k*74) 86 s.cl _ (key w' hw) Tryz.underlying86 rfl (by rw [Stp.cl_length hm];exact stp_info),key w' hw 73 _ c3,key w' hw 37 _ ((c2 0 (by omega)).trans rfl)⟩⟩
theorem stripped_len {key:Int} {inn:List Ltr} {j:Jb} {k:Nat} (h:strippedB key inn j k=true):k<inn.length∧j.bare.length=inn.length:=stripped_lt h
theorem ref_after (key rest:Int) (jc:Array Value) (j:Jb) (sl:List Stp) (inn:List Ltr) (leg k:Nat) (At A:Option Addr) (ct c:Nat) (W:World) (h49:jc.size=49) (hj:JobAt W W.heap.size (fun i=>jc[i]?) j)
  (hT:Rd W W.heap.size 74 At sl.length (sl.flatMap Stp.cl)) (hso:∀ s∈sl,s.ok) (hA:Rd W W.heap.size 6 A inn.length (inn.flatMap Ltr.cl)) :
  Calls Tryz.prog 39 #[.int .i64 key,.int .i64 rest,.agg jc,.slice At sl.length ct,.int .i64 (leg:Nat),.slice A inn.length c,.int .i64 (k:Nat)] W (Ret (.tuple #[.int .i64 (afterP key rest j (sl.getD leg zeroS) inn k).1,.int .i64 (afterP key rest j (sl.getD leg zeroS) inn k).2]) W):=by
 obtain ⟨v,hv⟩:∃ v,v=afterP key rest j (sl.getD leg zeroS) inn k:=⟨_,rfl⟩
 rw [←hv]
 unfold afterP at hv
 have BJ:=Blk.new W 55 jc _ rfl
 have hb:=bAl (bRefl W) (.cells jc 55)
 by_cases hl:leg<sl.length
 case neg =>
  have Hv:Hid (v=((k:Int),5)):=by
   show _=_
   rw [hv,List.getD_eq_getElem?_getD,List.getElem?_eq_none (by omega)];rfl
  have g1:(sl.length:Int)≤(leg:Int):=by omega
  clear hv hl
  go_enter Tryz.func39,Tryz.ntmps39
  go_upto_region 1 with fail
  generalize W.alloc (.cells jc 55)=w1 at *
  go_wp2_with fail
  go_ret2
  exact ⟨by rw [Hv.out];rfl,hb⟩
 obtain ⟨s,hs⟩:∃ s,Hid (sl[leg]?=some s):=⟨_,Lib.hid (List.getElem?_eq_getElem hl)⟩
 rw [List.getD_eq_getElem?_getD,hs.out,Option.getD_some] at hv
 have sok:=hso s (List.mem_of_getElem? hs.out)
 obtain ⟨bt,ot,eT,hbt,hst0⟩:=stp_at hT hso hl hs.out
 have hst:=Lib.hid hst0
 clear hst0
 subst eT
 have g1:(leg:Int)<(sl.length:Int):=by omega
 have g0:(0:Int)≤(leg:Int):=by omega
 by_cases hm:s.mid = -1
 case pos =>
  have Hv:Hid (v=((k:Int),5)):=by show _=_;rw [hv,if_pos hm]
  have c73:=(hst.out _ hb).2.1
  have gm:(s.mid == -1)=true:=by rw [beq_iff_eq];exact hm
  clear hv hl hm
  go_enter Tryz.func39,Tryz.ntmps39
  go_upto_region 1 with fail
  generalize W.alloc (.cells jc 55)=w1 at *
  go_wp2_with fail
  go_ret2
  exact ⟨by rw [Hv.out];rfl,hb⟩
 have gm:(s.mid == -1)=false:=by rw [beq_eq_false_iff_ne];exact hm
 rw [if_neg hm] at hv
 have c73:=(hst.out _ hb).2.1
 have LJ:=load_job BJ h49
 have hJ1:=(hj.below hb).more hb.size
 have qb:=ref_bare1 key jc inn j k A c (W.alloc (.cells jc 55)) hJ1 ((hA.below hb).more hb.size)
 cases hst2:strippedB key inn j k
 case false =>
  have Hv:Hid (v=((k:Int),3)):=by show _=_;rw [hv,hst2];rfl
  rw [hst2] at qb
  clear hv hl hm hst2
  go_enter Tryz.func39,Tryz.ntmps39
  go_upto_region 1 with fail
  generalize W.alloc (.cells jc 55)=w1 at *
  go_upto_region 3 with fail
  apply wp_region_lit
  iterate 3 go_step
  refine wpList_loadG (by rfl) (by rfl) (by rfl) LJ ?_
  simp only [Act.put,List.setIfInBounds_toArray,List.set_cons_zero,List.set_cons_succ]
  go_wp2_with fail
  (with_reducible refine qb.mono ?_)
  rintro e w2 ⟨rfl,b2⟩
  go_wp2_with fail
  go_ret2
  exact ⟨by rw [Hv.out];rfl,bCall hb b2⟩
 have hsl:=stripped_len hst2
 rw [hst2] at qb
 rw [hst2,if_pos rfl] at hv
 have qo:=fun w (hw:Below W.heap.size W w)=>ref_opened rest jc j s inn.length k w ((hj.below hw).more hw.size) sok hsl.1 hsl.2
 cases ho:openedR rest inn.length j s k
 all_goals
  rw [ho] at qo hv
  have Hv:=Lib.hid hv
  clear hv hl hm hst2 ho hsl
  go_enter Tryz.func39,Tryz.ntmps39
  go_upto_region 1 with fail
  generalize W.alloc (.cells jc 55)=w1 at *
  go_upto_region 3 with fail
  apply wp_region_lit
  iterate 3 go_step
  refine wpList_loadG (by rfl) (by rfl) (by rfl) LJ ?_
  simp only [Act.put,List.setIfInBounds_toArray,List.set_cons_zero,List.set_cons_succ]
  go_wp2_with fail
  (with_reducible refine qb.mono ?_)
  rintro e w2 ⟨rfl,b2⟩
  have hb2:=bCall hb b2
  have BJ2:=BJ.below b2 BJ.lt
  have hww:=hb2.size
  have q2:=fun w (hw:Below w2.heap.size w2 w)=>qo w (bCall hb2 hw)
  have KS:Hid (∀ w',Below w2.heap.size w2 w'→(Instr.loadAt 55 (.pointer (some ⟨W.heap.size,0,none⟩))).run Tryz.prog w' = .ok (.agg jc) w'∧(Instr.loadAt 86 (.pointer (some ⟨bt,ot+leg*74,none⟩))).run Tryz.prog w' = .ok (.agg s.cl.toArray) w'):=Lib.hid (fun w' h=>⟨load_job (BJ2.below h BJ2.lt) h49,(hst.out w' (bCall hb2 h)).1⟩)
  clear qb LJ hb b2 BJ c73 qo hJ1
  go_upto_region 5 with fail
  refine wp_region_schB (f:=10) KS [(0,1),(1,2),(2,1),(3,1),(4,1),(5,2),(6,1),(7,1),(8,1),(9,0),(10,3)] ?_
  simp only [pickS,List.getElem?_cons_zero,List.getElem?_cons_succ]
  refine wpSched_t ?_
  refine wpSched_r (v:=?v1) (hv:=?h1) ?_;case h1=>(intro w hSw;(first | refine (exec_load rfl rfl hSw).trans ?_ | refine (exec_load rfl rfl hSw.1).trans ?_ | refine (exec_load rfl rfl hSw.2.1).trans ?_ | refine (exec_load rfl rfl hSw.2.2.1).trans ?_ | refine (exec_load rfl rfl hSw.2).trans ?_ | refine (exec_load rfl rfl hSw.2.2).trans ?_);with_reducible rfl)
  iterate 3 refine wpSched_t ?_
  refine wpSched_r (v:=?v2) (hv:=?h2) ?_;case h2=>(intro w hSw;(first | refine (exec_load rfl rfl hSw).trans ?_ | refine (exec_load rfl rfl hSw.1).trans ?_ | refine (exec_load rfl rfl hSw.2.1).trans ?_ | refine (exec_load rfl rfl hSw.2.2.1).trans ?_ | refine (exec_load rfl rfl hSw.2).trans ?_ | refine (exec_load rfl rfl hSw.2.2).trans ?_);with_reducible rfl)
  iterate 3 refine wpSched_t ?_
  refine wpSched_force (fun K hK=>?_)
  go_simp;(first | (go_at_call 74;(with_reducible refine (q2 _ (bDr (bRefl _))).mono ?_);rintro e w9 ⟨rfl,b9⟩;have B7:Below w2.heap.size w2 w9:=bCall (bDr (bRefl _)) b9) | skip)
  refine shut_go hK KS ?_
  clear hK K
  refine wpSched_last ?_
  first | simp only [List.map_nil] | simp only [List.map_cons,List.map_nil]
 ·go_wp2_with fail
  refine NoPanic.normal ?_
  go_wp2_with fail
  go_ret2
  exact ⟨by rw [Hv.out];rfl,bCall hb2 B7⟩
 ·have c37:=(hst.out _ (bCall hb2 B7)).2.2
  go_wp2_with fail
  refine NoPanic.normal ?_
  go_wp2_with fail
  go_ret2
  exact ⟨by rw [Hv.out];rfl,bCall hb2 B7⟩
theorem again_good {key:Int} {a:Ltr} {r0 r1 r2:Int} (hk:validB key=true) (ha:a.good=true):againE key a=0∧(againV key a r0 r1 r2).good=true:=by
 unfold againE againV
 rw [if_pos hk,if_pos hk,if_pos ha,if_pos ha]
 exact ⟨rfl,more_good hk ha⟩
theorem leads_good {key:Int} {a b:Ltr} {r0 r1 r2:Int} (hk:validB key=true) (ha:a.good=true):leadsB key a b r0 r1 r2=b.eqB (againV key a r0 r1 r2):=by
 unfold leadsB
 rw [(again_good (r0:=r0) (r1:=r1) (r2:=r2) hk ha).1]
 rw [Bool.eq_iff_iff]
 simp only [decide_true,Bool.true_and,Ltr.eqB_iff]
 exact ⟨fun h=>h.symm,fun h=>h.symm⟩
theorem opened_eq {key rest:Int} {inn:List Ltr} {j:Jb} {s:Stp} {k:Nat} (hr:validB rest=true) (h:strippedB key inn j k=true):openedR rest inn.length j s k=openedB rest inn.length j s k:=by
 unfold strippedB at h
 simp only [Bool.and_eq_true,decide_eq_true_eq] at h
 obtain ⟨-,-,-,hb⟩:=h
 unfold checkBareB at hb
 simp only [Bool.and_eq_true,decide_eq_true_eq] at hb
 obtain ⟨-,-,-,-,hg,-⟩:=hb
 have hgood:(j.bare.getD k zeroL).good=true:=by
  have:=(chkL_ok.1 hg).2
  simpa using this
 unfold openedR openedB
 cases h1:lensB inn.length j
 ·rfl
 cases h2:(j.mi.getD k zeroL).eqB (j.bare.getD k zeroL)
 ·rfl
 have hmi:(j.mi.getD k zeroL).good=true:=by rw [Ltr.eqB_iff.1 h2];exact hgood
 unfold fitsB
 rw [leads_good hr hmi]
 cases h3:(j.mm.getD s.mid.toNat zeroL).eqB (againV rest (j.mi.getD k zeroL) s.left.r0 s.left.r1 s.left.r2)
 ·simp
 have hmm:(j.mm.getD s.mid.toNat zeroL).good=true:=by rw [Ltr.eqB_iff.1 h3];exact (again_good hr hmi).2
 rw [leads_good hr hmm]
 rw [Bool.eq_iff_iff]
 simp only [Bool.and_eq_true,decide_eq_true_eq,Bool.true_and,and_true]
 constructor
 ·rintro ⟨a,b,c,d,e,⟨f,g⟩,h,i⟩
  exact ⟨a,b,c,d,f,g,e,h,i⟩
 ·rintro ⟨a,b,c,d,f,g,e,h,i⟩
  exact ⟨a,b,c,d,e,⟨f,g⟩,h,i⟩
theorem Cs.bares_iff {c:Cs} : c.bares=true↔∀ i,i<c.keys.length→c.bareAt i=true:=by
 unfold Cs.bares
 rw [List.all_eq_true]
 exact ⟨fun h i hi=>h i (List.mem_range.2 hi),fun h i hi=>h i (List.mem_range.1 hi)⟩
theorem key_at {w:World} {B:Nat} {A:Option Addr} {l:List Int} {n k:Nat} (h:Rd w B 1 A n (ints l)) (hn:k<n) (hl:l.length=n):∃ b off x,A=some ⟨b,off,none⟩∧b<B∧l[k]?=some x∧w.cell? ⟨b,off+k,none⟩=some (.int .i64 x):=by
 have hx:l[k]?=some l[k]:=List.getElem?_eq_getElem (by omega)
 obtain ⟨b,off,e,hb,hc⟩:=Int_at h hn hx
 exact ⟨b,off,_,e,hb,hx,hc⟩
theorem ref_formed55 (cs:Array Value) (jcs:List (Array Value)) (c:Cs) (W:World) (h:CaseAt W W.heap.size cs jcs c) (hfew:c.jobs.length≤1000) (hfl:c.first.length≤1152921504606846976) :
  Calls Tryz.prog 36 #[.agg cs] W (Ret (.bool (c.formed&&(c.valid&&c.bares))) W):=by
 obtain ⟨v,hv⟩:∃ v,v=(c.formed&&(c.valid&&c.bares)):=⟨_,rfl⟩
 rw [←hv]
 have hfd:c.formed=formedB c.keys.length c.jobs.length c.steps.length c.first c.place:=rfl
 unfold formedB at hfd
 obtain ⟨A3,c3,h3,r3,l3,l3'⟩:=h.first
 obtain ⟨A4,c4,h4,r4⟩:=h.keys
 obtain ⟨A5,c5,h5,r5⟩:=h.jobs
 obtain ⟨A13,c13,h13,r13⟩:=h.steps
 have h6:=h.place
 have B0:=Blk.new W 33 cs _ rfl
 have hb:=bAl (bRefl W) (.cells cs 33)
 have k3:=(B0.cell 3).trans h3
 have k4:=(B0.cell 4).trans h4
 have k5:=(B0.cell 5).trans h5
 have k6:=(B0.cell 6).trans h6
 have k13:=(B0.cell 13).trans h13
 go_enter Tryz.func36,Tryz.ntmps36
 go_upto_region 1 with fail
 generalize W.alloc (.cells cs 33)=w1 at *
 by_cases t1:2≤c.keys.length
 case neg =>
  have Hv:Hid (v=false):=by show _=_;rw [hv,hfd,decide_eq_false t1];simp
  have e0:decide ((c.keys.length:Int)<2)=true:=by rw [decide_eq_true];omega
  clear t1
  clear hv hfd
  go_wp2_with fail
  go_ret
  exact ⟨ret_bool Hv.out.symm,hb⟩
 have e0:decide ((c.keys.length:Int)<2)=false:=by rw [decide_eq_false];omega
 by_cases t2:c.keys.length≤9
 case neg =>
  have Hv:Hid (v=false):=by show _=_;rw [hv,hfd,decide_eq_false t2];simp
  have e1:decide (9<(c.keys.length:Int))=true:=by rw [decide_eq_true];omega
  clear t1 t2
  clear hv hfd
  go_wp2_with fail
  go_ret
  exact ⟨ret_bool Hv.out.symm,hb⟩
 have e1:decide (9<(c.keys.length:Int))=false:=by rw [decide_eq_false];omega
 by_cases t3:c.jobs.length=c.keys.length
 case neg =>
  have Hv:Hid (v=false):=by show _=_;rw [hv,hfd,decide_eq_false t3];simp
  have e2:((c.jobs.length:Int) != (c.keys.length:Int))=true:=by rw [bne_iff_ne];omega
  clear t1 t2 t3
  clear hv hfd
  go_wp2_with fail
  go_ret
  exact ⟨ret_bool Hv.out.symm,hb⟩
 have e2:((c.jobs.length:Int) != (c.keys.length:Int))=false:=by rw [bne_eq_false_iff_eq];omega
 by_cases t4:c.steps.length≤c.keys.length
 case neg =>
  have Hv:Hid (v=false):=by show _=_;rw [hv,hfd,decide_eq_false t4];simp
  have e3:decide (c.keys.length<c.steps.length)=true:=by rw [decide_eq_true];omega
  clear t1 t2 t3 t4
  clear hv hfd
  go_wp2_with fail
  go_ret
  exact ⟨ret_bool Hv.out.symm,hb⟩
 have e3:decide (c.keys.length<c.steps.length)=false:=by rw [decide_eq_false];omega
 rw [decide_eq_true t1,decide_eq_true t2,decide_eq_true t3,decide_eq_true t4] at hfd
 have T3:=Lib.hid t3
 have hn9:c.keys.length≤9:=t2
 have Hfd:=Lib.hid hfd
 have Hv0:=Lib.hid hv
 clear t1 t2 t3 t4 hv hfd
 go_wp2_with fail
 clear e0 e1 e2 e3
 go_loop [4] (fun i=>∃ k:Nat,k≤c.keys.length∧i = .int .i64 k∧Hid (∀ x∈c.keys.take k,validB x=true)) (fun i=>c.keys.length - (intOf i).toNat)
 case atStart=>exact ⟨0,Nat.zero_le _,rfl,Lib.hid (by simp)⟩
 case round =>
  obtain ⟨k,hkn,rfl,hp⟩:=hrel
  by_cases hlt:k<c.keys.length
  ·obtain ⟨bk,ok,x,eK,hbk,hx0,d0⟩:=key_at (r4.below hb) hlt rfl
   subst eK
   have hx:=Lib.hid hx0
   clear hx0
   have q:=ref_valid x w1
   have i0:(0:Int)≤(k:Int):=by omega
   have i1:(k:Int)<(c.keys.length:Int):=by omega
   cases hvx:validB x
   ·have Hv:Hid (v=false):=by
     show _=_
     rw [Hv0.out]
     have:c.valid=false:=by
      unfold Cs.valid
      exact List.all_eq_false.2 ⟨x,List.mem_of_getElem? hx.out,by rw [hvx];simp⟩
     rw [this];simp
    rw [hvx] at q
    clear hvx
    go_wp2_with fail
    (with_reducible refine q.mono ?_)
    rintro e w2 ⟨rfl,rfl⟩
    go_wp2_with fail
    go_ret
    exact ⟨ret_bool Hv.out.symm,hb⟩
   ·have hp':Hid (∀ z∈c.keys.take (k+1),validB z=true):=by
     intro z hz
     obtain ⟨hk,rfl⟩:=List.getElem?_eq_some_iff.1 hx.out
     rw [List.take_succ_eq_append_getElem hk] at hz
     rcases List.mem_append.1 hz with hz | hz
     ·exact hp.out z hz
     ·obtain rfl:z=c.keys[k]:=by simpa using hz
      exact hvx
    rw [hvx] at q
    clear hvx
    go_wp2_with fail
    (with_reducible refine q.mono ?_)
    rintro e w2 ⟨rfl,rfl⟩
    go_wp2_with fail
    exact ⟨⟨k+1,by omega,by go_num,hp'⟩,by simp [intOf];omega⟩
  ·have hvd:c.valid=true:=by
    unfold Cs.valid
    exact List.all_eq_true.2 (by have:=hp.out;rw [List.take_of_length_le (by omega)] at this;exact this)
   have hv:v=(c.formed&&c.bares):=by rw [Hv0.out,hvd];rfl
   have hfd:=Hfd.out
   clear hp
   by_cases t5:c.first.length≠0
   case neg =>
    have Hv:Hid (v=false):=by show _=_;rw [hv,hfd,decide_eq_false t5];simp
    have e5:decide ((c.first.length:Int)<1)=true:=by rw [decide_eq_true];omega
    clear hv hfd t5
    go_wp2_with fail
    go_ret
    exact ⟨ret_bool Hv.out.symm,hb⟩
   have e5:decide ((c.first.length:Int)<1)=false:=by rw [decide_eq_false];omega
   by_cases t6:c.first.length≤64
   case neg =>
    have Hv:Hid (v=false):=by show _=_;rw [hv,hfd,decide_eq_false t6];simp
    have e6:decide (64<(c.first.length:Int))=true:=by rw [decide_eq_true];omega
    clear hv hfd t6
    clear t5
    go_wp2_with fail
    go_ret
    exact ⟨ret_bool Hv.out.symm,hb⟩
   have e6:decide (64<(c.first.length:Int))=false:=by rw [decide_eq_false];omega
   have q:=ref_formed A3 c.first.length c3 c.first w1 ((r3.below hb).more hb.size) (by omega)
   cases hg:c.first.all Ltr.good
   ·have Hv:Hid (v=false):=by show _=_;rw [hv,hfd,hg];simp
    rw [hg] at q
    clear hv hfd hg
    clear t5 t6
    go_wp2_with fail
    (with_reducible refine q.mono ?_)
    rintro e w2 ⟨rfl,b2⟩
    go_wp2_with fail
    go_ret
    exact ⟨ret_bool Hv.out.symm,bCall hb b2⟩
   rw [hg] at q
   by_cases t7:0≤c.place
   case neg =>
    have Hv:Hid (v=false):=by show _=_;rw [hv,hfd,decide_eq_false (fun hh:0≤c.place∧c.place<c.first.length=>t7 hh.1)];simp
    have e7:decide (c.place<0)=true:=by rw [decide_eq_true];omega
    clear hv hfd hg t7
    clear t5 t6
    go_wp2_with fail
    (with_reducible refine q.mono ?_)
    rintro e w2 ⟨rfl,b2⟩
    have k6:=(B0.below b2 B0.lt).cell 6 |>.trans h6
    go_wp2_with fail
    go_ret
    exact ⟨ret_bool Hv.out.symm,bCall hb b2⟩
   have e7:decide (c.place<0)=false:=by rw [decide_eq_false];omega
   by_cases t8:c.place<c.first.length
   case neg =>
    have Hv:Hid (v=false):=by show _=_;rw [hv,hfd,decide_eq_false (fun hh:0≤c.place∧c.place<c.first.length=>t8 hh.2)];simp
    have e8:decide ((c.first.length:Int)≤c.place)=true:=by rw [decide_eq_true];omega
    clear hv hfd hg t7 t8
    clear t5 t6
    go_wp2_with fail
    (with_reducible refine q.mono ?_)
    rintro e w2 ⟨rfl,b2⟩
    have k6:=(B0.below b2 B0.lt).cell 6 |>.trans h6
    have k3:=(B0.below b2 B0.lt).cell 3 |>.trans h3
    go_wp2_with fail
    go_ret
    exact ⟨ret_bool Hv.out.symm,bCall hb b2⟩
   have e8:decide ((c.first.length:Int)≤c.place)=false:=by rw [decide_eq_false];omega
   have Hv1:Hid (v=c.bares):=by
    show _=_
    rw [hv,hfd,hg,decide_eq_true t5,decide_eq_true t6,decide_eq_true (⟨t7,t8⟩:0≤c.place∧c.place<c.first.length)];rfl
   have T6:=Lib.hid t6
   clear hv hfd hg t5 t6 t7 t8 hvd
   go_wp2_with fail
   (with_reducible refine q.mono ?_)
   rintro e w2 ⟨rfl,b2⟩
   have BC:=B0.below b2 B0.lt
   have hb2:=bCall hb b2
   clear q
   have k6:=(BC.cell 6).trans h6
   have k3:=(BC.cell 3).trans h3
   have k4:=(BC.cell 4).trans h4
   have k5:=(BC.cell 5).trans h5
   go_wp2_with fail
   clear e5 e6 e7 e8 k6 k3 k4 k5 k13
   go_loopw [5] (fun i wr=>∃ m:Nat,m≤c.keys.length∧i = .int .i64 m∧Below W.heap.size W wr∧Blk wr W.heap.size 33 cs∧Hid (∀ i,i<m→c.bareAt i=true)) (fun i _=>c.keys.length - (intOf i).toNat)
   case atStart=>exact ⟨0,Nat.zero_le _,rfl,hb2,BC,Lib.hid (fun i hi=>by omega)⟩
   case round =>
    clear hb2 BC b2 hlt B0 hb
    obtain ⟨m,hmn,rfl,hb,BC,hp⟩:=hrel
    by_cases hlt:m<c.keys.length
    ·have hmj:m<c.jobs.length:=by have:=T3.out;omega
     have hH:=(h.below hb).more hb.size
     obtain ⟨bj,oj,cj,h5',hbj,hL⟩:=hH.jobLoad (by omega)
     have k5:=(BC.cell 5).trans h5'
     obtain ⟨jc,hjc⟩:∃ jc,Hid (jcs[m]?=some jc):=⟨_,Lib.hid (List.getElem?_eq_getElem (by rw [h.jlen];omega))⟩
     obtain ⟨a1,a2,a3,a4⟩:=h.job m jc hjc.out
     have LJ:=(hL m jc hjc.out).1
     obtain ⟨bk,ok,x,eK,hbk,hx0,d0⟩:=key_at (r4.below hb) hlt rfl
     have hkx:Hid (c.keyAt m=x):=by show _=_;unfold Cs.keyAt;rw [List.getD_eq_getElem?_getD,hx0];rfl
     have i0:(0:Int)≤(m:Int):=by omega
     have i1:(m:Int)<(c.jobs.length:Int):=by omega
     have i2:(m:Int)<(c.keys.length:Int):=by omega
     have LS:(Instr.storeAt 55 (.pointer (some ⟨wr.heap.size,0,none⟩)) (.agg jc)).run Tryz.prog (wr.alloc (.cells zJobC 55)) = .ok () (wr.alloc (.cells jc 55)):=store_newW (by rw [a1];exact job_info) (by rw [a1];rfl) a2
     clear hL hx0 h5'
     go_upto_region 14 with fail
     apply wp_region_lit
     iterate 12 go_step
     refine wpList_loadG (by rfl) (by rfl) (by rfl) LJ ?_
     simp only [Act.put,List.setIfInBounds_toArray,List.set_cons_zero,List.set_cons_succ]
     iterate 3 go_step
     refine wpList_storeG (by rfl) (by rfl) (by rfl) (by rfl) LS ?_
     simp only [Act.put]
     have BJ:=Blk.new wr 55 jc _ rfl
     have BC2:=BC.alloc (.cells jc 55)
     have hb2:=bAl hb (.cells jc 55)
     have hgj:W.heap.size<wr.heap.size:=BC.lt
     clear BC LJ LS k5
     have hbr:=hb.size
     have hb3:Below wr.heap.size wr (wr.alloc (.cells jc 55)):=bAl (bRefl _) _
     have d0':(wr.alloc (.cells jc 55)).cell? ⟨bk,ok+m,none⟩=some (.int .i64 x):=(hb3.cell (p:=⟨bk,ok+m,none⟩) (by show bk<_;omega)).trans d0
     clear hb d0
     generalize wr.alloc (.cells jc 55)=w5 at *
     generalize wr.heap.size=gj at *
     obtain ⟨A0,c0,j0,s0,-⟩:=a3.h0
     obtain ⟨A1,c1,j1,s1,l1,l1'⟩:=a3.h1
     have qe:=fun w=>ref_empty jc (c.jobAt m).emptyB w (a3.lens3 a4)
     have hba:Hid (c.bareAt m=(!(c.jobAt m).emptyB||checkBareB x (c.inAt m) (c.jobAt m).bare (c.jobAt m).proofs)):=by show _=_;rw [←hkx.out];rfl
     have LC:Hid (∀ w',Below w5.heap.size w5 w'→(Instr.loadAt 55 (.pointer (some ⟨gj,0,none⟩))).run Tryz.prog w' = .ok (.agg jc) w'∧(Instr.loadAt 33 (.pointer (some ⟨W.heap.size,0,none⟩))).run Tryz.prog w' = .ok (.agg cs) w'∧w'.cell? ⟨W.heap.size,4,none⟩=some (.slice (some ⟨bk,ok,none⟩) c.keys.length c4)∧w'.cell? ⟨bk,ok+m,none⟩=some (.int .i64 x)∧w'.cell? ⟨gj,0,none⟩=some (.slice A0 (c.jobAt m).bare.length c0)∧w'.cell? ⟨gj,1,none⟩=some (.slice A1 (c.jobAt m).proofs.length c1)):=Lib.hid (fun w' hw=>⟨load_job (BJ.below hw BJ.lt) a1,load_case (BC2.below hw BC2.lt) h.size,((BC2.below hw BC2.lt).cell 4).trans (h4.trans (by rw [eK])),(hw.cell (p:=⟨bk,ok+m,none⟩) (by have:=hb2.size;show bk<_;omega)).trans d0',((BJ.below hw BJ.lt).cell 0).trans j0,((BJ.below hw BJ.lt).cell 1).trans j1⟩)
     clear d0' eK
     cases hem:(c.jobAt m).emptyB
     case false =>
      have hok:c.bareAt m=true:=by rw [hba.out,hem];rfl
      have hp':Hid (∀ i,i<m+1→c.bareAt i=true):=by
       intro i hi
       by_cases him:i<m
       ·exact hp.out i him
       ·obtain rfl:i=m:=by omega
        exact hok
      rw [hem] at qe
      clear hem hok
      go_upto_region 15 with fail
      refine wp_region_schB (f:=17) LC [(0,2),(1,0),(2,1),(3,1),(4,1),(5,1),(6,1),(7,1),(8,1),(9,1),(11,1),(12,1),(13,1),(14,1),(10,0),(15,0),(16,1),(17,3)] ?_
      simp only [pickS,List.getElem?_cons_zero,List.getElem?_cons_succ]
      refine wpSched_r (v:=?v1) (hv:=?h1) ?_;case h1=>(intro w hSw;(first | refine (exec_load rfl rfl hSw).trans ?_ | refine (exec_load rfl rfl hSw.1).trans ?_ | refine (exec_load rfl rfl hSw.2.1).trans ?_ | refine (exec_load rfl rfl hSw.2.2.1).trans ?_ | refine (exec_load rfl rfl hSw.2).trans ?_ | refine (exec_load rfl rfl hSw.2.2).trans ?_);with_reducible rfl)
      refine wpSched_force (fun K hK=>?_)
      go_simp;(first | (go_at_call 17;(with_reducible refine (qe _).mono ?_);rintro e w9 ⟨rfl,b9⟩;have B7:Below w5.heap.size w5 w9:=bCall (bDr (bRefl _)) b9) | skip)
      refine shut_go hK LC ?_
      clear hK K
      refine wpSched_t ?_
      iterate 11 refine wpSched_p ?_
      refine wpSched_force (fun K hK=>?_)
      go_simp;(first | (go_at_call 17;(with_reducible refine (qe _).mono ?_);rintro e w9 ⟨rfl,b9⟩;have B7:Below w5.heap.size w5 w9:=bCall (bDr (bRefl _)) b9) | skip)
      refine shut_go hK LC ?_
      clear hK K
      refine wpSched_force (fun K hK=>?_)
      go_simp;(first | (go_at_call 17;(with_reducible refine (qe _).mono ?_);rintro e w9 ⟨rfl,b9⟩;have B7:Below w5.heap.size w5 w9:=bCall (bDr (bRefl _)) b9) | skip)
      refine shut_go hK LC ?_
      clear hK K
      refine wpSched_p ?_
      refine wpSched_last ?_
      first | simp only [List.map_nil] | simp only [List.map_cons,List.map_nil]
      have BC9:=BC2.below B7 BC2.lt
      have hb9:=bCall hb2 B7
      clear LC B7 BC2 BJ hb2 hb3 qe
      go_wp2_with fail
      refine NoPanic.normal ?_
      go_wp2_with fail
      exact ⟨⟨m+1,by omega,by go_num,hb9,BC9,hp'⟩,by simp [intOf];omega⟩
     case true =>
      have qb:∀ w,Below W.heap.size W w→Calls Tryz.prog 40 #[.agg cs,.int .i64 (m:Nat)] w (RetLs (c.inAt m) w):=fun w hw=>ref_batch cs jcs c m w ((h.below hw).more hw.size) (by omega) hfew
      have qc:∀ w (A:Option Addr) (cc:Nat),Below W.heap.size W w→Rd w w.heap.size 6 A (c.inAt m).length ((c.inAt m).flatMap Ltr.cl)→Calls Tryz.prog 69 #[.int .i64 x,.slice A (c.inAt m).length cc,.slice A0 (c.jobAt m).bare.length c0,.slice A1 (c.jobAt m).proofs.length c1] w (Ret (.bool (checkBareB x (c.inAt m) (c.jobAt m).bare (c.jobAt m).proofs)) w):=fun w A cc hw hr=>by
       refine ref_checkBare x A A0 A1 _ _ _ cc c0 c1 _ _ _ w hr ((s0.below hw).more hw.size) ((s1.below hw).more hw.size) ?_ ?_ ?_
       ·have:=inAt_small h T6.out (k:=m) (by omega);omega
       ·have:=a4.1;omega
       ·exact Nat.le_trans l1 l1'
      have hbm:c.bareAt m=checkBareB x (c.inAt m) (c.jobAt m).bare (c.jobAt m).proofs:=by rw [hba.out,hem];rfl
      rw [hem] at qe
      cases hcb:checkBareB x (c.inAt m) (c.jobAt m).bare (c.jobAt m).proofs
      all_goals
       rw [hcb] at qc hbm
       have hbm2:=Lib.hid hbm
       clear hem hcb hbm
       go_upto_region 15 with fail
       refine wp_region_schB (f:=17) LC [(0,2),(1,0),(2,1),(3,1),(4,2),(5,1),(6,1),(7,2),(8,2),(9,1),(11,1),(12,2),(13,1),(14,2),(10,0),(15,0),(16,1),(17,3)] ?_
       simp only [pickS,List.getElem?_cons_zero,List.getElem?_cons_succ]
       refine wpSched_r (v:=?v2) (hv:=?h2) ?_;case h2=>(intro w hSw;(first | refine (exec_load rfl rfl hSw).trans ?_ | refine (exec_load rfl rfl hSw.1).trans ?_ | refine (exec_load rfl rfl hSw.2.1).trans ?_ | refine (exec_load rfl rfl hSw.2.2.1).trans ?_ | refine (exec_load rfl rfl hSw.2).trans ?_ | refine (exec_load rfl rfl hSw.2.2).trans ?_);with_reducible rfl)
       refine wpSched_force (fun K hK=>?_)
       go_simp;(first | (go_at_call 17;(with_reducible refine (qe _).mono ?_);rintro e w9 ⟨rfl,b9⟩;have B7:Below w5.heap.size w5 w9:=bCall (bDr (bRefl _)) b9) | (go_at_call 40;(with_reducible refine (qb _ (bCall hb2 B7)).mono ?_);rintro e w8 ⟨A8,c8,rfl,b8,hR8,_,_⟩;have B8:Below w5.heap.size w5 w8:=bCall B7 b8) | (go_at_call 69;(with_reducible refine (qc _ _ _ (bCall hb2 B8) hR8).mono ?_);rintro e w7 ⟨rfl,b7⟩;have B9:Below w5.heap.size w5 w7:=bCall B8 b7) | skip)
       refine shut_go hK LC ?_
       clear hK K
       iterate 2 refine wpSched_t ?_
       refine wpSched_r ?_
       iterate 2 refine wpSched_t ?_
       refine wpSched_r ?_
       refine wpSched_r (v:=?v3) (hv:=?h3) ?_;case h3=>(intro w hSw;(first | refine (exec_load rfl rfl hSw).trans ?_ | refine (exec_load rfl rfl hSw.1).trans ?_ | refine (exec_load rfl rfl hSw.2.1).trans ?_ | refine (exec_load rfl rfl hSw.2.2.1).trans ?_ | refine (exec_load rfl rfl hSw.2).trans ?_ | refine (exec_load rfl rfl hSw.2.2).trans ?_);with_reducible rfl)
       iterate 2 refine wpSched_t ?_
       refine wpSched_r ?_
       refine wpSched_t ?_
       refine wpSched_r ?_
       refine wpSched_force (fun K hK=>?_)
       go_simp;(first | (go_at_call 17;(with_reducible refine (qe _).mono ?_);rintro e w9 ⟨rfl,b9⟩;have B7:Below w5.heap.size w5 w9:=bCall (bDr (bRefl _)) b9) | (go_at_call 40;(with_reducible refine (qb _ (bCall hb2 B7)).mono ?_);rintro e w8 ⟨A8,c8,rfl,b8,hR8,_,_⟩;have B8:Below w5.heap.size w5 w8:=bCall B7 b8) | (go_at_call 69;(with_reducible refine (qc _ _ _ (bCall hb2 B8) hR8).mono ?_);rintro e w7 ⟨rfl,b7⟩;have B9:Below w5.heap.size w5 w7:=bCall B8 b7) | skip)
       refine shut_go hK LC ?_
       clear hK K
       refine wpSched_force (fun K hK=>?_)
       go_simp;(first | (go_at_call 17;(with_reducible refine (qe _).mono ?_);rintro e w9 ⟨rfl,b9⟩;have B7:Below w5.heap.size w5 w9:=bCall (bDr (bRefl _)) b9) | (go_at_call 40;(with_reducible refine (qb _ (bCall hb2 B7)).mono ?_);rintro e w8 ⟨A8,c8,rfl,b8,hR8,_,_⟩;have B8:Below w5.heap.size w5 w8:=bCall B7 b8) | (go_at_call 69;(with_reducible refine (qc _ _ _ (bCall hb2 B8) hR8).mono ?_);rintro e w7 ⟨rfl,b7⟩;have B9:Below w5.heap.size w5 w7:=bCall B8 b7) | skip)
       refine shut_go hK LC ?_
       clear hK K
       refine wpSched_t ?_
       refine wpSched_last ?_
       first | simp only [List.map_nil] | simp only [List.map_cons,List.map_nil]
       have BC9:=BC2.below B9 BC2.lt
       have hb9:=bCall hb2 B9
       clear LC B7 B8 B9 BC2 BJ hb2 hb3 qe qb qc
      ·have hbad:Hid (v=false):=by
        show _=_
        rw [Hv1.out,←Bool.not_eq_true,Cs.bares_iff]
        intro hh
        have:=hh m hlt
        rw [hbm2.out] at this;cases this
       go_wp2_with fail
       refine NoPanic.normal ?_
       go_wp2_with fail
       go_ret
       exact ⟨ret_bool hbad.out.symm,hb9⟩
      ·have hp':Hid (∀ i,i<m+1→c.bareAt i=true):=by
        intro i hi
        by_cases him:i<m
        ·exact hp.out i him
        ·obtain rfl:i=m:=by omega
         exact hbm2.out
       go_wp2_with fail
       refine NoPanic.normal ?_
       go_wp2_with fail
       exact ⟨⟨m+1,by omega,by go_num,hb9,BC9,hp'⟩,by simp [intOf];omega⟩
    ·have hx0:Hid (v=true):=by
      show _=_
      rw [Hv1.out]
      exact Cs.bares_iff.2 (fun i hi=>hp.out i (by omega))
     go_wp2_with fail
     go_ret
     exact ⟨ret_bool hx0.out.symm,hb⟩
end Go.Proofs.YtoeobcmmafncmaaGreatDoor

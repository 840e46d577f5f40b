/- frankinglaw56.sane, walked. -/
import Derived.Test.YtoeobcmmafncmaaGreatDoorSbr
import Derived.Test.YtoeobcmmafncmaaGreatDoorSbs
import Derived.Test.YtoeobcmmafncmaaGreatDoorSbm
import Derived.Test.YtoeobcmmafncmaaGreatDoorSay
set_option maxRecDepth 1000000
set_option maxHeartbeats 16000000
namespace Go.Proofs.YtoeobcmmafncmaaGreatDoor
open Go.RowKit
def JudgeOk:Prop:=∀ (a:Ca) (l:List Int) (Al:Option Addr) (cl:Nat) (cs:Array Value) (jcs:List (Array Value)) (W:World),CaAt W W.heap.size cs jcs a→Rd W W.heap.size 1 Al l.length (ints l)→l.length≤1000→l.length≤cl→cl≤9223372036854775807→ShaG W →
  Calls Tryz.prog 6 #[.slice Al l.length cl,.agg cs] W (Ret (judV (a.judge l)) W)
theorem judge_ok:JudgeOk:=fun a l Al cl cs jcs W h hl h1 h2 h3 hG=>ar_judge a l Al cl cs jcs W h hl h1 h2 h3 hG
theorem JudgeOk.of (hP:JudgeOk) {a:Ca} {l:List Int} {Al:Option Addr} {cl n:Nat} {cs:Array Value} {jcs:List (Array Value)} {W:World} (h:CaAt W W.heap.size cs jcs a) (hn:l.length=n) (hl:Rd W W.heap.size 1 Al n (ints l)) (h1:n≤1000) (h2:n≤cl) (h3:cl≤9223372036854775807) (hG:ShaG W) {x y e:Int} (hj:a.judge l=(x,y,e)) :
  Calls Tryz.prog 6 #[.slice Al n cl,.agg cs] W (Ret (.tuple #[.agg #[.int .i64 x,.int .i64 y],.int .i64 e]) W):=by
 subst hn
 have:=hP a l Al cl cs jcs W h hl h1 h2 h3 hG
 rw [hj] at this
 exact this
theorem caT_at {w:World} {B:Nat} {cs:Array Value} {jcs:List (Array Value)} {c:Cs} (C:CaseAt w B cs jcs c) (r0:cs[0]?=some (.int .i64 0)) (r1:cs[1]?=some (.int .i64 0)) (r2:cs[2]?=some (.int .i64 0)) (hl:c.jobs.length=2) (hk:c.keys=[3,4].map pubV)
  (hj:∀ (k:Nat) (jc:Array Value),jcs[k]?=some jc→∀ (i:Nat) (v:Value),zeroH.cl[i]?=some v→jc[7+i]?=some v) (hm:∀ k,(c.jobAt k).mo=[]):CaAt w B cs jcs (caT c):=by
 refine ⟨C,r0,r1,r2,hl.symm,fun k jc h h1 h2=>?_,fun h hh=>?_,fun x hx=>?_,fun k x hx=>?_,fun k=>?_⟩
 ·have:h=zeroH:=by
   have:=List.mem_of_getElem? h2
   simp only [caT,List.mem_cons,List.not_mem_nil,or_false,or_self] at this
   exact this
  subst this
  exact hj k jc h1
 ·simp only [caT,List.mem_cons,List.not_mem_nil,or_false,or_self] at hh
  subst hh
  exact zeroH_ok
 ·have hx':x∈c.keys:=hx
  rw [hk] at hx'
  simp only [List.map,pub3,pub4,List.mem_cons,List.not_mem_nil,or_false] at hx'
  unfold inI
  rcases hx' with rfl | rfl <;> omega
 ·rw [show ((caT c).c.jobAt k).mo=[] from hm k] at hx
  cases hx
 ·rw [show ((caT c).c.jobAt k).mo=[] from hm k]
  show 0≤1000
  omega
theorem zero_ca (w:World):CaAt w w.heap.size #[.int .i64 0,.int .i64 0,.int .i64 0,.slice none 0 0,.slice none 0 0,.slice none 0 0,.int .i64 0,.int .i64 0,.int .i64 0,.int .i64 0,.int .i64 0,.int .i64 0,.int .i64 0,.slice none 0 0,.int .i64 0] [] ⟨zeroC,[],0,0,0⟩ :=
 ⟨zero_case w,rfl,rfl,rfl,rfl,fun k jc h h1=>(by simp at h1),fun h hh=>(by cases hh),fun x hx=>(by cases hx),fun k x hx=>(by
  have:((⟨zeroC,[],0,0,0⟩:Ca).c.jobAt k).mo=[]:=rfl
  rw [this] at hx;cases hx),fun k=>(by show 0≤1000;omega)⟩
theorem cT_mo (x:Int) (k:Nat):((cT x).jobAt k).mo=[]:=by
 match k with
 | 0=>rfl
 | 1=>rfl
 | k+2=>rfl
theorem eqVer (a b c d:Int) (w:World):(binOp .eql 37 (.agg #[.int .i64 a,.int .i64 b]) (.agg #[.int .i64 c,.int .i64 d])).run Tryz.prog w = .ok (.bool (decide (a=c∧b=d))) w:=by
 have hS:Tryz.prog.underlying 37=some (.struct (Tryz.prog.fieldsOf 37)):=by kernel_rfl
 have hp:Tryz.prog.stoodInHeld 37=false:=by kernel_rfl
 have u3:=Tryz.underlying3
 have a3:=Tryz.isAgg3
 have z3:=Tryz.sizeOf3
 have h:(Op.equalIn 10000 37 (.agg #[.int .i64 a,.int .i64 b]) (.agg #[.int .i64 c,.int .i64 d])).run Tryz.prog w = .ok (decide (a=c∧b=d)) w:=by
  rw [show (10000:Nat)=9998+1+1 from rfl,run_equalIn_agg w (9998+1) 37 _ _ hS hp]
  simp only [Program.fieldsOf,Tryz.underlying37]
  go_simp
  by_cases h1:a=c <;> by_cases h2:b=d <;> simp [h1,h2]
 rw [run_eql_struct,h];rfl
theorem CaseAt.setX {w:World} {B:Nat} {cs:Array Value} {jcs:List (Array Value)} {c:Cs} (h:CaseAt w B cs jcs c) (x:Int):CaseAt w B (cs.setIfInBounds 7 (.int .i64 x)) jcs { c with words:=⟨x,c.words.y,c.words.z⟩ }:=by
 have hs:=h.size
 refine ⟨by simp only [Array.size_setIfInBounds,hs],one_set h.one 7 rfl,?_,?_,?_,h.jlen,h.job,?_,by rw [set_eq (by omega)],?_,?_,?_,?_,?_,?_,h.stepOk⟩
 all_goals rw [set_ne (by decide)]
 ·exact h.first
 ·exact h.keys
 ·exact h.jobs
 ·exact h.place
 ·exact h.w1
 ·exact h.w2
 ·exact h.r0
 ·exact h.r1
 ·exact h.r2
 ·exact h.steps
theorem JobIn'.setIn {w:World} {B:Nat} {jc:Array Value} {j:Jb} (h:JobIn' w B jc j) {v:Value} {l:List Ltr} (hv:LsAt w B (some v) l) (hl:l.length≤1000):JobIn' w B (jc.setIfInBounds 2 v) { j with mi:=l }:=by
 obtain ⟨a1,a2,a3,a4⟩:=h
 have h1:v.oneCell'=true:=by obtain ⟨A,cc,e,-⟩:=hv;injection e with e;subst e;rfl
 refine ⟨by rw [Array.size_setIfInBounds,a1],one_set a2 2 h1,⟨?_,?_,?_,?_,?_,?_,?_⟩,a4.1,by show l.length≤_;omega,a4.2.2.1,a4.2.2.2⟩
 ·show LsAt w B ((jc.setIfInBounds 2 v)[0]?) _;rw [set_ne (by decide)];exact a3.h0
 ·show LsAt w B ((jc.setIfInBounds 2 v)[1]?) _;rw [set_ne (by decide)];exact a3.h1
 ·show LsAt w B ((jc.setIfInBounds 2 v)[2]?) _;rw [set_eq (by omega)];exact hv
 ·show LsAt w B ((jc.setIfInBounds 2 v)[3]?) _;rw [set_ne (by decide)];exact a3.h3
 ·show LsAt w B ((jc.setIfInBounds 2 v)[4]?) _;rw [set_ne (by decide)];exact a3.h4
 ·show DsAt w B ((jc.setIfInBounds 2 v)[5]?) _;rw [set_ne (by decide)];exact a3.h5
 ·show DsAt w B ((jc.setIfInBounds 2 v)[6]?) _;rw [set_ne (by decide)];exact a3.h6
theorem aw_sane (hP:JudgeOk) (W:World) (hG:ShaG W):Calls Tryz.prog 4 #[] W (Ret (.bool true) W):=by
 have hq:=fun (a b c d:Int) (w:World)=>eqVer a b c d w
 go_enter Tryz.func4,Tryz.ntmps4
 go_wp2_with fail
 (with_reducible refine (aw_bare W hG).mono ?_)
 rintro e w1 ⟨hb,csA,jcs,rfl,C,r0,r1,r2,g1,g2,g3,g4,rfl⟩
 dsimp only
 (refine ‹∀ (a:Act) (w:World),wpList _ _ _ _ a w→_› _ _ ?_)
 iterate 12 go_step
 have hs:=C.size
 refine wpList_storeG (by rfl) (by rfl) (by rfl) (by rfl) (store_newW (by rw [hs];exact case_info') (by rw [hs];rfl) C.one) ?_
 simp only [Act.put]
 have BC:=Blk.new w1 33 csA _ rfl
 have b12:=bAl (bRefl w1) (.cells csA 33)
 replace C:=C.below b12
 have hcb:W.heap.size≤w1.heap.size:=hb.size
 replace hb:=bCall hb b12
 clear b12
 generalize w1.alloc (.cells csA 33)=w2 at *
 generalize w1.heap.size=cb at *
 have hJ:∀ (k:Nat) (jc:Array Value),([jobC g1 g2 1,jobC g3 g4 1]:List (Array Value))[k]?=some jc→∀ (i:Nat) (v:Value),zeroH.cl[i]?=some v→jc[7+i]?=some v:=fun k jc hk i v hv=>by
  match k,hk with
  | 0,hk =>
   obtain rfl:_=jc:=by simpa using hk
   exact jobC_hand _ _ _ i v hv
  | 1,hk =>
   obtain rfl:_=jc:=by simpa using hk
   exact jobC_hand _ _ _ i v hv
  | k+2,hk=>simp at hk
 have hCT:∀ w B,CaseAt w B csA [jobC g1 g2 1,jobC g3 g4 1] (cT 1)→CaAt w B csA [jobC g1 g2 1,jobC g3 g4 1] (caT (cT 1)):=fun w B C=>caT_at C r0 r1 r2 (bareJobs_length [3,4] [lT]) rfl hJ (cT_mo 1)
 go_upto_region 4 with fail
 have bA:=bAl (bRefl w2) (.cells #[.int .i64 0,.int .i64 1] 3)
 have q:=hP.of (a:=caT (cT 1)) (l:=[0,1]) (n:=2) (cl:=2) (hCT _ _ ((C.below ((bAl (bRefl w2) (.cells #[.int .i64 0,.int .i64 1] 3)).mono (Nat.le_of_lt BC.lt))).more (Nat.le_of_lt (BC.alloc (.cells #[.int .i64 0,.int .i64 1] 3)).lt))) rfl (Rd.new w2 (ints [0,1]) _ 1 2 _ rfl rfl) (by omega) (by omega) (by omega) (hG.below (bCall hb bA)) jt_clear
 have LC:=load_case (BC.alloc (.cells #[.int .i64 0,.int .i64 1] 3)) hs
 apply wp_region_lit
 iterate 3 go_step
 refine wpList_loadG (by rfl) (by rfl) (by rfl) LC ?_
 simp only [Act.put,List.setIfInBounds_toArray,List.set_cons_zero,List.set_cons_succ]
 clear LC
 go_wp2_with fail
 (with_reducible refine q.mono ?_)
 rintro e w3 ⟨rfl,bN⟩
 clear q
 replace bA:=bCall bA bN
 clear bN
 replace C:=C.below (bA.mono (Nat.le_of_lt BC.lt))
 replace BC:=BC.below bA BC.lt
 replace hb:=bCall hb bA
 clear bA
 go_upto_region 5 with fail
 have V3:=Blk.new w3 37 #[.int .i64 (-1),.int .i64 0] _ rfl
 have bA:=bAl (bRefl w3) (.cells #[.int .i64 (-1),.int .i64 0] 37)
 replace C:=C.below (bA.mono (Nat.le_of_lt BC.lt))
 replace BC:=BC.below bA BC.lt
 replace hb:=bCall hb bA
 clear bA
 generalize w3.alloc (.cells #[.int .i64 (-1),.int .i64 0] 37)=w4 at *
 generalize w3.heap.size=vV3 at *
 have bA:=bAl (bRefl w4) (.cells #[.int .i64 0] 3)
 have q:=hP.of (a:=caT (cT 1)) (l:=[0]) (n:=1) (cl:=1) (hCT _ _ ((C.below ((bAl (bRefl w4) (.cells #[.int .i64 0] 3)).mono (Nat.le_of_lt BC.lt))).more (Nat.le_of_lt (BC.alloc (.cells #[.int .i64 0] 3)).lt))) rfl (Rd.new w4 (ints [0]) _ 1 1 _ rfl rfl) (by omega) (by omega) (by omega) (hG.below (bCall hb bA)) jt_short
 have LC:=load_case (BC.alloc (.cells #[.int .i64 0] 3)) hs
 apply wp_region_lit
 iterate 3 go_step
 refine wpList_loadG (by rfl) (by rfl) (by rfl) LC ?_
 simp only [Act.put,List.setIfInBounds_toArray,List.set_cons_zero,List.set_cons_succ]
 clear LC
 go_wp2_with fail
 (with_reducible refine q.mono ?_)
 rintro e w5 ⟨rfl,bN⟩
 clear q
 replace bA:=bCall bA bN
 clear bN
 replace C:=C.below (bA.mono (Nat.le_of_lt BC.lt))
 replace BC:=BC.below bA BC.lt
 replace V3:=V3.below bA V3.lt
 replace hb:=bCall hb bA
 clear bA
 go_upto_region 6 with fail
 have bA:=bAl (bRefl w5) (.cells #[.int .i64 0,.int .i64 0] 37)
 replace C:=C.below (bA.mono (Nat.le_of_lt BC.lt))
 replace BC:=BC.below bA BC.lt
 replace V3:=V3.below bA V3.lt
 replace hb:=bCall hb bA
 clear bA
 generalize w5.alloc (.cells #[.int .i64 0,.int .i64 0] 37)=w6 at *
 have bA:=bAl (bRefl w6) (.cells #[.int .i64 1,.int .i64 1] 3)
 have q:=hP.of (a:=caT (cT 1)) (l:=[1,1]) (n:=2) (cl:=2) (hCT _ _ ((C.below ((bAl (bRefl w6) (.cells #[.int .i64 1,.int .i64 1] 3)).mono (Nat.le_of_lt BC.lt))).more (Nat.le_of_lt (BC.alloc (.cells #[.int .i64 1,.int .i64 1] 3)).lt))) rfl (Rd.new w6 (ints [1,1]) _ 1 2 _ rfl rfl) (by omega) (by omega) (by omega) (hG.below (bCall hb bA)) jt_twice
 have LC:=load_case (BC.alloc (.cells #[.int .i64 1,.int .i64 1] 3)) hs
 apply wp_region_lit
 iterate 3 go_step
 refine wpList_loadG (by rfl) (by rfl) (by rfl) LC ?_
 simp only [Act.put,List.setIfInBounds_toArray,List.set_cons_zero,List.set_cons_succ]
 clear LC
 go_wp2_with fail
 (with_reducible refine q.mono ?_)
 rintro e w7 ⟨rfl,bN⟩
 clear q
 replace bA:=bCall bA bN
 clear bN
 replace C:=C.below (bA.mono (Nat.le_of_lt BC.lt))
 replace BC:=BC.below bA BC.lt
 replace V3:=V3.below bA V3.lt
 replace hb:=bCall hb bA
 clear bA
 go_upto_region 7 with fail
 have bA:=bAl (bRefl w7) (.cells #[.int .i64 0,.int .i64 0] 37)
 replace C:=C.below (bA.mono (Nat.le_of_lt BC.lt))
 replace BC:=BC.below bA BC.lt
 replace V3:=V3.below bA V3.lt
 replace hb:=bCall hb bA
 clear bA
 generalize w7.alloc (.cells #[.int .i64 0,.int .i64 0] 37)=w8 at *
 have q:=hP.of (a:=⟨zeroC,[],0,0,0⟩) (l:=[]) (n:=0) (Al:=none) (cl:=0) (zero_ca w8) rfl Rd.nil_ (by omega) (by omega) (by omega) (hG.below hb) jt_zero
 go_wp2_with fail
 (with_reducible refine q.mono ?_)
 rintro e w9 ⟨rfl,bN⟩
 clear q
 have bA:=bN
 clear bN
 replace C:=C.below (bA.mono (Nat.le_of_lt BC.lt))
 replace BC:=BC.below bA BC.lt
 replace V3:=V3.below bA V3.lt
 replace hb:=bCall hb bA
 clear bA
 go_upto_region 8 with fail
 have bA:=bAl (bRefl w9) (.cells #[.int .i64 0,.int .i64 0] 37)
 replace C:=C.below (bA.mono (Nat.le_of_lt BC.lt))
 replace BC:=BC.below bA BC.lt
 replace V3:=V3.below bA V3.lt
 replace hb:=bCall hb bA
 clear bA
 generalize w9.alloc (.cells #[.int .i64 0,.int .i64 0] 37)=w10 at *
 have LC:=load_case BC hs
 apply wp_region_lit
 refine wpList_loadG (by rfl) (by rfl) (by rfl) LC ?_
 simp only [Act.put,List.setIfInBounds_toArray,List.set_cons_zero,List.set_cons_succ]
 clear LC
 iterate 3 go_step
 refine wpList_storeG (by rfl) (by rfl) (by rfl) (by rfl) (store_newW (by rw [hs];exact case_info') (by rw [hs];rfl) C.one) ?_
 simp only [Act.put]
 have BO:=Blk.new w10 33 csA _ rfl
 have oblt:cb<w10.heap.size:=BC.lt
 have bA:=bAl (bRefl w10) (.cells csA 33)
 replace C:=C.below (bA.mono (Nat.le_of_lt BC.lt))
 replace BC:=BC.below bA BC.lt
 replace V3:=V3.below bA V3.lt
 replace hb:=bCall hb bA
 clear bA
 generalize w10.alloc (.cells csA 33)=w11 at *
 generalize w10.heap.size=ob at *
 go_upto_region 9 with fail
 obtain ⟨v7,h7⟩:∃ v,csA[7]?=some v:=⟨_,Array.getElem?_eq_getElem (by omega)⟩
 have x7:w11.cell? ⟨ob,7,none⟩=some v7:=(BO.cell 7).trans h7
 have z7:=BO.frozen 7
 go_upto_region 10 with fail
 clear x7 z7
 replace V3:=V3.farT (i:=7) BO (by decide) (.int .i64 2)
 replace BO:=BO.set_ 7 (.int .i64 2)
 replace C:=C.below (Below.setCell (Below.refl cb w11) (p:=⟨ob,7,none⟩) (by show cb≤ob;omega) (.int .i64 2))
 replace BC:=BC.far (p:=⟨ob,7,none⟩) (by show cb≠ob;omega) (.int .i64 2)
 replace hb:=bSet hb (p:=⟨ob,7,none⟩) (by show W.heap.size≤ob;omega) (.int .i64 2)
 generalize w11.setCell ⟨ob,7,none⟩ (.int .i64 2)=w12 at *
 have hsO:(csA.setIfInBounds 7 (.int .i64 2)).size=15:=by rw [Array.size_setIfInBounds];exact hs
 have hCO:∀ w B,CaseAt w B csA [jobC g1 g2 1,jobC g3 g4 1] (cT 1)→CaAt w B (csA.setIfInBounds 7 (.int .i64 2)) [jobC g1 g2 1,jobC g3 g4 1] (caT (cT 2)):=fun w B C=>caT_at (c:=cT 2) (C.setX 2) (by rw [set_ne (by decide)];exact r0) (by rw [set_ne (by decide)];exact r1) (by rw [set_ne (by decide)];exact r2) (bareJobs_length [3,4] [lT]) rfl hJ (cT_mo 2)
 have bA:=bAl (bRefl w12) (.cells #[.int .i64 0,.int .i64 1] 3)
 have q:=hP.of (a:=caT (cT 2)) (l:=[0,1]) (n:=2) (cl:=2) (hCO _ _ ((C.below ((bAl (bRefl w12) (.cells #[.int .i64 0,.int .i64 1] 3)).mono (Nat.le_of_lt BC.lt))).more (Nat.le_of_lt (BC.alloc (.cells #[.int .i64 0,.int .i64 1] 3)).lt))) rfl (Rd.new w12 (ints [0,1]) _ 1 2 _ rfl rfl) (by omega) (by omega) (by omega) (hG.below (bCall hb bA)) jt_sender
 have LC:=load_case (BO.alloc (.cells #[.int .i64 0,.int .i64 1] 3)) hsO
 apply wp_region_lit
 iterate 3 go_step
 refine wpList_loadG (by rfl) (by rfl) (by rfl) LC ?_
 simp only [Act.put,List.setIfInBounds_toArray,List.set_cons_zero,List.set_cons_succ]
 clear LC
 go_wp2_with fail
 (with_reducible refine q.mono ?_)
 rintro e w13 ⟨rfl,bN⟩
 clear q
 replace bA:=bCall bA bN
 clear bN
 replace C:=C.below (bA.mono (Nat.le_of_lt BC.lt))
 replace BC:=BC.below bA BC.lt
 replace V3:=V3.below bA V3.lt
 replace BO:=BO.below bA BO.lt
 replace hb:=bCall hb bA
 clear bA
 go_upto_region 11 with fail
 have V12:=Blk.new w13 37 #[.int .i64 (-1),.int .i64 1] _ rfl
 have bA:=bAl (bRefl w13) (.cells #[.int .i64 (-1),.int .i64 1] 37)
 replace C:=C.below (bA.mono (Nat.le_of_lt BC.lt))
 replace BC:=BC.below bA BC.lt
 replace V3:=V3.below bA V3.lt
 replace BO:=BO.below bA BO.lt
 replace hb:=bCall hb bA
 clear bA
 generalize w13.alloc (.cells #[.int .i64 (-1),.int .i64 1] 37)=w14 at *
 generalize w13.heap.size=vV12 at *
 have LC:=load_case BC hs
 apply wp_region_lit
 refine wpList_loadG (by rfl) (by rfl) (by rfl) LC ?_
 simp only [Act.put,List.setIfInBounds_toArray,List.set_cons_zero,List.set_cons_succ]
 clear LC
 iterate 3 go_step
 refine wpList_storeG (by rfl) (by rfl) (by rfl) (by rfl) (store_newW (by rw [hs];exact case_info') (by rw [hs];rfl) C.one) ?_
 simp only [Act.put]
 have BZ:=Blk.new w14 33 csA _ rfl
 have zblt:cb<w14.heap.size:=BC.lt
 have bA:=bAl (bRefl w14) (.cells csA 33)
 replace C:=C.below (bA.mono (Nat.le_of_lt BC.lt))
 replace BC:=BC.below bA BC.lt
 replace V3:=V3.below bA V3.lt
 replace V12:=V12.below bA V12.lt
 replace hb:=bCall hb bA
 clear bA
 generalize w14.alloc (.cells csA 33)=w15 at *
 generalize w14.heap.size=zb at *
 go_upto_region 12 with fail
 obtain ⟨AJ,cj,k5,hR⟩:=C.jobs
 have nj:(cT 1).jobs.length=2:=bareJobs_length [3,4] [lT]
 rw [nj] at k5 hR
 have y5:w15.cell? ⟨cb,5,none⟩=some (.slice AJ 2 cj):=(BC.cell 5).trans k5
 have hlc:cb<w15.heap.size:=BC.lt
 have hlz:zb<w15.heap.size:=BZ.lt
 have hone:∀ u∈[jobC g1 g2 1,jobC g3 g4 1].flatMap Array.toList,u.oneCell'=true:=fun u hu=>by
  obtain ⟨x,hx,hu⟩:=List.mem_flatMap.1 hu
  obtain ⟨i,hi⟩:=List.getElem?_of_mem hx
  exact (C.job i x hi).2.1 u hu
 apply wp_region_lit
 iterate 9 go_step
 refine wpList_appendG (.tmp 58) (.tmp 60) 26 w15.heap.size 55 zJob 49 280 (.slice (some ⟨w15.heap.size,0,none⟩) 0 0) 0 [] AJ 2 cj cb ([jobC g1 g2 1,jobC g3 g4 1].flatMap Array.toList) rfl rfl Tryz.underlying26 job_info4 rfl (by omega) rfl (own_empty w15 _ _ _ (Nat.le_refl _)) rfl
  (hR.alloc (by omega) _) (fun e=>by obtain ⟨b',off,e2,_⟩:=hR.2 (by omega);rw [e] at e2;cases e2) hone (by unfold maxLen;omega) (by omega) (by simp) (fun v15 w16 ownA hgA=>?_)
 obtain ⟨g,cap,cur,rfl,hgb,BG,hnc,hcm,hcs,hct⟩:=own_some ownA (by omega)
 have bA:Below w15.heap.size w15 w16:=(bAl (bRefl w15) (.cells #[] 55)).trans (hgA.below (own_empty w15 55 49 w15.heap.size (Nat.le_refl _)) (by simp))
 replace BZ:=BZ.below bA BZ.lt
 replace BC:=BC.below bA BC.lt
 replace V3:=V3.below bA V3.lt
 replace V12:=V12.below bA V12.lt
 replace C:=C.below (bA.mono (by omega))
 replace hR:=hR.below (bA.mono (by omega))
 replace hb:=bCall hb bA
 clear bA ownA hgA y5 hone
 have x5:w16.cell? ⟨zb,5,none⟩=some (.slice AJ 2 cj):=(BZ.cell 5).trans k5
 have z5:=BZ.frozen 5
 go_upto_region 13 with fail
 clear x5 z5
 replace V3:=V3.farT (i:=5) BZ (by decide) (.slice (some ⟨g,0,none⟩) 2 cap)
 replace V12:=V12.farT (i:=5) BZ (by decide) (.slice (some ⟨g,0,none⟩) 2 cap)
 replace BG:=BG.farT (i:=5) BZ (by decide) (.slice (some ⟨g,0,none⟩) 2 cap)
 replace BC:=BC.far (p:=⟨zb,5,none⟩) (by show cb≠zb;omega) (.slice (some ⟨g,0,none⟩) 2 cap)
 replace BZ:=BZ.set_ 5 (.slice (some ⟨g,0,none⟩) 2 cap)
 replace C:=C.below (Below.setCell (Below.refl cb w16) (p:=⟨zb,5,none⟩) (by show cb≤zb;omega) (.slice (some ⟨g,0,none⟩) 2 cap))
 replace hR:=hR.below (Below.setCell (Below.refl cb w16) (p:=⟨zb,5,none⟩) (by show cb≤zb;omega) (.slice (some ⟨g,0,none⟩) 2 cap))
 replace hb:=bSet hb (p:=⟨zb,5,none⟩) (by show W.heap.size≤zb;omega) (.slice (some ⟨g,0,none⟩) 2 cap)
 generalize w16.setCell ⟨zb,5,none⟩ (.slice (some ⟨g,0,none⟩) 2 cap)=w17 at *
 obtain ⟨jb,off,rfl,hjb,hcj⟩:=hR.2 (by omega)
 have x49:w17.cell? ⟨jb,off+49,none⟩=some (.slice (some ⟨g3,0,none⟩) 1 1):=hcj 49 _ rfl
 have hX5:(csA.setIfInBounds 5 (.slice (some ⟨g,0,none⟩) 2 cap))[5]?=some (.slice (some ⟨g,0,none⟩) 2 cap):=set_eq (by rw [hs];omega)
 have KS:Hid (∀ w',Below w17.heap.size w17 w'→w'.cell? ⟨zb,5,none⟩=some (.slice (some ⟨g,0,none⟩) 2 cap)∧w'.cell? ⟨cb,5,none⟩=some (.slice (some ⟨jb,off,none⟩) 2 cj)∧w'.cell? ⟨jb,off+49,none⟩=some (.slice (some ⟨g3,0,none⟩) 1 1)):=Lib.hid (fun w' hw=>⟨((BZ.below hw BZ.lt).cell 5).trans hX5,((BC.below hw BC.lt).cell 5).trans k5,(hw.cell (p:=⟨jb,off+49,none⟩) (by show jb<_;have:=BC.lt;omega)).trans x49⟩)
 obtain ⟨v51,h51⟩:∃ v,cur[51]?=some v:=⟨_,Array.getElem?_eq_getElem (by omega)⟩
 refine wp_region_schB (f:=10) KS [(0,1),(1,2),(2,1),(3,2),(4,1),(5,1),(6,2),(7,1),(8,1),(9,1),(10,3)] ?_
 simp only [pickS,List.getElem?_cons_zero,List.getElem?_cons_succ]
 refine wpSched_t ?_
 refine wpSched_r ?_
 refine wpSched_t ?_
 refine wpSched_r ?_
 iterate 2 refine wpSched_t ?_
 refine wpSched_r ?_
 iterate 3 refine wpSched_t ?_
 refine wpSched_last ?_
 first | simp only [List.map_nil] | simp only [List.map_cons,List.map_nil]
 clear KS x49 hcj
 replace BZ:Blk w17.drew zb 33 _:=BZ
 replace BC:Blk w17.drew cb 33 _:=BC
 replace BG:Blk w17.drew g 55 _:=BG
 replace V3:Blk w17.drew vV3 37 _:=V3
 replace V12:Blk w17.drew vV12 37 _:=V12
 replace C:=C.below (bDr (bRefl w17) |>.mono (Nat.le_of_lt BC.lt))
 replace hb:=bDr hb
 generalize w17.drew=wd at *
 have x51:wd.cell? ⟨g,51,none⟩=some v51:=(BG.cell 51).trans h51
 have z51:=BG.frozen 51
 go_wp2_with fail
 refine NoPanic.normal ?_
 go_upto_region 14 with fail
 clear x51 z51
 have hcg:cb≤g:=by omega
 replace V3:=V3.farT (i:=51) BG (by decide) (.slice (some ⟨g3,0,none⟩) 1 1)
 replace V12:=V12.farT (i:=51) BG (by decide) (.slice (some ⟨g3,0,none⟩) 1 1)
 replace BC:=BC.farT (i:=51) BG (by decide) (.slice (some ⟨g3,0,none⟩) 1 1)
 replace BZ:=BZ.farT (i:=51) BG (by decide) (.slice (some ⟨g3,0,none⟩) 1 1)
 replace BG:=BG.set_ 51 (.slice (some ⟨g3,0,none⟩) 1 1)
 replace C:=C.below (Below.setCell (Below.refl cb wd) (p:=⟨g,51,none⟩) hcg (.slice (some ⟨g3,0,none⟩) 1 1))
 replace hb:=bSet hb (p:=⟨g,51,none⟩) (by show W.heap.size≤g;omega) (.slice (some ⟨g3,0,none⟩) 1 1)
 generalize wd.setCell ⟨g,51,none⟩ (.slice (some ⟨g3,0,none⟩) 1 1)=w18 at *
 have J0:JobIn' _ cb (jobC g1 g2 1) (bareJob 3 [lT]):=C.job 0 _ rfl
 have J1:JobIn' _ cb (jobC g3 g4 1) ((cT 1).jobAt 1):=C.job 1 _ rfl
 have hct2:=two_take hct J0.1 2 (.slice (some ⟨g3,0,none⟩) 1 1)
 have hcc:cb≤w18.heap.size:=Nat.le_of_lt BC.lt
 have hR2:Rd w18 w18.heap.size 49 (some ⟨g,0,none⟩) 2 ([jobC g1 g2 1,(jobC g3 g4 1).setIfInBounds 2 (.slice (some ⟨g3,0,none⟩) 1 1)].flatMap Array.toList):=Rd.of_blk BG hct2 (by rw [←hct2,List.length_take,Array.length_toList,Array.size_setIfInBounds,hcs,Nat.min_eq_left];omega)
 have hbl:((cT 1).jobAt 1).bare.length=1:=by
  show (bareX 4 (bareX 3 [lT])).length=1
  unfold bareX;simp
 have J1':=(J1.more hcc).setIn (v := .slice (some ⟨g3,0,none⟩) 1 1) (l:=((cT 1).jobAt 1).bare) ((J1.more hcc).2.2.1.h0) (by omega)
 have CD0:CaseAt w18 w18.heap.size (csA.setIfInBounds 5 (.slice (some ⟨g,0,none⟩) 2 cap)) [jobC g1 g2 1,(jobC g3 g4 1).setIfInBounds 2 (.slice (some ⟨g3,0,none⟩) 1 1)] (dT { (cT 1).jobAt 1 with mi:=((cT 1).jobAt 1).bare }) :=
  (C.more hcc).setJobs (cj:=cap) (jobs':=[bareJob 3 [lT],{ (cT 1).jobAt 1 with mi:=((cT 1).jobAt 1).bare }]) hR2 rfl (fun k jc hk=>by
   match k,hk with
   | 0,hk =>
    obtain rfl:_=jc:=by simpa using hk
    exact J0.more hcc
   | 1,hk =>
    obtain rfl:_=jc:=by simpa using hk
    exact J1'
   | k+2,hk=>simp at hk)
 have CD:CaAt w18 w18.heap.size (csA.setIfInBounds 5 (.slice (some ⟨g,0,none⟩) 2 cap)) [jobC g1 g2 1,(jobC g3 g4 1).setIfInBounds 2 (.slice (some ⟨g3,0,none⟩) 1 1)] (caT (dT { (cT 1).jobAt 1 with mi:=((cT 1).jobAt 1).bare })) :=
  caT_at CD0 (by rw [set_ne (by decide)];exact r0) (by rw [set_ne (by decide)];exact r1) (by rw [set_ne (by decide)];exact r2) rfl rfl (fun k jc hk i v hv=>by
   match k,hk with
   | 0,hk =>
    obtain rfl:_=jc:=by simpa using hk
    exact jobC_hand _ _ _ i v hv
   | 1,hk =>
    obtain rfl:_=jc:=by simpa using hk
    rw [set_ne (by omega)]
    exact jobC_hand _ _ _ i v hv
   | k+2,hk=>simp at hk) (fun k=>by
   match k with
   | 0=>rfl
   | 1=>rfl
   | k+2=>rfl)
 have hsZ:(csA.setIfInBounds 5 (.slice (some ⟨g,0,none⟩) 2 cap)).size=15:=by rw [Array.size_setIfInBounds];exact hs
 have hje:({ (cT 1).jobAt 1 with mi:=((cT 1).jobAt 1).bare } : Jb).emptyB=false:=by
  unfold Jb.emptyB
  rw [decide_eq_false]
  show ¬(((cT 1).jobAt 1).bare.length+_+_=0)
  omega
 have hjs:=jt_silent hje
 generalize ({ (cT 1).jobAt 1 with mi:=((cT 1).jobAt 1).bare } : Jb)=jz at *
 clear J0 J1 J1' hct2 hR2 BG hbl hje CD0
 have bA:=bAl (bRefl w18) (.cells #[.int .i64 0,.int .i64 1] 3)
 have q:=hP.of (a:=caT (dT jz)) (l:=[0,1]) (n:=2) (cl:=2) ((CD.below (bAl (bRefl w18) (.cells #[.int .i64 0,.int .i64 1] 3))).more (by simp)) rfl (Rd.new w18 (ints [0,1]) _ 1 2 _ rfl rfl) (by omega) (by omega) (by omega) (hG.below (bCall hb bA)) hjs
 have LC:=load_case (BZ.alloc (.cells #[.int .i64 0,.int .i64 1] 3)) hsZ
 apply wp_region_lit
 iterate 3 go_step
 refine wpList_loadG (by rfl) (by rfl) (by rfl) LC ?_
 simp only [Act.put,List.setIfInBounds_toArray,List.set_cons_zero,List.set_cons_succ]
 clear LC
 go_wp2_with fail
 (with_reducible refine q.mono ?_)
 rintro e w19 ⟨rfl,bN⟩
 clear q
 replace bA:=bCall bA bN
 clear bN
 replace C:=C.below (bA.mono (Nat.le_of_lt BC.lt))
 replace BC:=BC.below bA BC.lt
 replace V3:=V3.below bA V3.lt
 replace V12:=V12.below bA V12.lt
 replace BZ:=BZ.below bA BZ.lt
 replace hb:=bCall hb bA
 clear bA
 go_upto_region 15 with fail
 have V15:=Blk.new w19 37 #[.int .i64 1,.int .i64 5] _ rfl
 have bA:=bAl (bRefl w19) (.cells #[.int .i64 1,.int .i64 5] 37)
 replace C:=C.below (bA.mono (Nat.le_of_lt BC.lt))
 replace BC:=BC.below bA BC.lt
 replace V3:=V3.below bA V3.lt
 replace V12:=V12.below bA V12.lt
 replace BZ:=BZ.below bA BZ.lt
 replace hb:=bCall hb bA
 clear bA
 generalize w19.alloc (.cells #[.int .i64 1,.int .i64 5] 37)=w20 at *
 generalize w19.heap.size=vV15 at *
 obtain ⟨a0,a1,_⟩:=V3.two_
 obtain ⟨c0,c1,_⟩:=V12.two_
 obtain ⟨d0,d1,_⟩:=V15.two_
 go_wp2_with fail
 go_ret
 exact ⟨by simp,hb⟩
theorem SixAt.cells {w:World} {B n k:Nat} {A:Option Addr} {l:List Ltr} {x:Ltr} (h:Rd w B 6 A n (l.flatMap Ltr.cl)) (hn:k<n) (hx:l[k]?=some x):∃ b off,A=some ⟨b,off,none⟩∧b<B∧SixAt w b (off+k*6) x:=Ltr_at h hn hx
theorem rd_one {w:World} {g:Nat} {t:TypeId} {x:Ltr} (h:Blk w g t x.cells):Rd w w.heap.size 6 (some ⟨g,0,none⟩) 1 ([x].flatMap Ltr.cl):=by
 refine ⟨rfl,fun _=>⟨g,0,rfl,h.lt,fun j u hu=>?_⟩⟩
 rw [Nat.zero_add,h.cell]
 have:([x].flatMap Ltr.cl)=x.cells.toList:=by simp [Ltr.cl,Ltr.cells]
 rw [this] at hu
 simpa using hu
theorem ref_bare1 (key:Int) (jc:Array Value) (inn:List Ltr) (j:Jb) (k:Nat) (A:Option Addr) (c:Nat) (W:World) (hj:JobAt W W.heap.size (fun i=>jc[i]?) j) (hA:Rd W W.heap.size 6 A inn.length (inn.flatMap Ltr.cl)) :
  Calls Tryz.prog 73 #[.int .i64 key,.agg jc,.slice A inn.length c,.int .i64 (k:Nat)] W (Ret (.bool (strippedB key inn j k)) W):=by
 obtain ⟨v,hv⟩:∃ v,v=strippedB key inn j k:=⟨_,rfl⟩
 rw [←hv]
 unfold strippedB at hv
 obtain ⟨A0,c0,h0,r0,l0,l0'⟩:=hj.h0
 obtain ⟨A1,c1,h1,r1,l1,l1'⟩:=hj.h1
 have B0:=Blk.new W 55 jc _ rfl
 have hb:=bAl (bRefl W) (.cells jc 55)
 have k0:=(B0.cell 0).trans h0
 have k1:=(B0.cell 1).trans h1
 go_enter Tryz.func73,Tryz.ntmps73
 go_upto_region 1 with fail
 generalize W.alloc (.cells jc 55)=w1 at *
 have e0:(0:Int)≤(k:Int):=by omega
 by_cases t1:k<inn.length
 case neg =>
  have Hv:Hid (v=false):=by show _=_;rw [hv,decide_eq_false t1];rfl
  have e1:(inn.length:Int)≤(k:Int):=by omega
  clear hv t1
  go_wp2_with fail
  go_ret
  exact ⟨ret_bool Hv.out.symm,hb⟩
 have e1:(k:Int)<(inn.length:Int):=by omega
 by_cases t2:j.bare.length=inn.length
 case neg =>
  have Hv:Hid (v=false):=by show _=_;rw [hv,decide_eq_false t2];simp
  have e2:((j.bare.length:Int) != (inn.length:Int))=true:=by rw [bne_iff_ne];omega
  clear hv t2 t1
  go_wp2_with fail
  go_ret
  exact ⟨ret_bool Hv.out.symm,hb⟩
 have e2:((j.bare.length:Int) != (inn.length:Int))=false:=by rw [bne_eq_false_iff_eq];omega
 by_cases t3:j.proofs.length=inn.length
 case neg =>
  have Hv:Hid (v=false):=by show _=_;rw [hv,decide_eq_false t3];simp
  have e3:((j.proofs.length:Int) != (inn.length:Int))=true:=by rw [bne_iff_ne];omega
  clear hv t2 t3 t1
  go_wp2_with fail
  go_ret
  exact ⟨ret_bool Hv.out.symm,hb⟩
 have e3:((j.proofs.length:Int) != (inn.length:Int))=false:=by rw [bne_eq_false_iff_eq];omega
 have hkb:k<j.bare.length:=by omega
 have hkp:k<j.proofs.length:=by omega
 obtain ⟨X,hX⟩:∃ X,Hid (inn[k]?=some X):=⟨_,Lib.hid (List.getElem?_eq_getElem t1)⟩
 obtain ⟨Y,hY⟩:∃ X,Hid (j.bare[k]?=some X):=⟨_,Lib.hid (List.getElem?_eq_getElem hkb)⟩
 obtain ⟨Z,hZ⟩:∃ X,Hid (j.proofs[k]?=some X):=⟨_,Lib.hid (List.getElem?_eq_getElem hkp)⟩
 have Hv:Hid (v=checkBareB key [X] [Y] [Z]):=by
  show _=_
  rw [hv,decide_eq_true t1,decide_eq_true t2,decide_eq_true t3,List.getD_eq_getElem?_getD,List.getD_eq_getElem?_getD,List.getD_eq_getElem?_getD,hX.out,hY.out,hZ.out];rfl
 clear hv t2 t3
 obtain ⟨ba,oa,eA,hba,sa⟩:=SixAt.of (hA.below hb) t1 hX.out
 obtain ⟨bb,ob,eB,hbb,sb⟩:=SixAt.of (r0.below hb) hkb hY.out
 obtain ⟨bc,oc,eC,hbc,sc⟩:=SixAt.of (r1.below hb) hkp hZ.out
 subst eA;subst eB;subst eC
 have hws:=hb.size
 have f2:(k:Int)<(j.bare.length:Int):=by omega
 have f3:(k:Int)<(j.proofs.length:Int):=by omega
 have KS:Hid (∀ w',Below w1.heap.size w1 w'→(w'.cell? ⟨ba,oa+k*6,none⟩=some (.int .i64 X.a0)∧w'.cell? ⟨ba,oa+k*6+1,none⟩=some (.int .i64 X.b0)∧w'.cell? ⟨ba,oa+k*6+2,none⟩=some (.int .i64 X.a1)∧w'.cell? ⟨ba,oa+k*6+3,none⟩=some (.int .i64 X.b1)∧w'.cell? ⟨ba,oa+k*6+4,none⟩=some (.int .i64 X.a2)∧w'.cell? ⟨ba,oa+k*6+5,none⟩=some (.int .i64 X.b2))∧(w'.cell? ⟨bb,ob+k*6,none⟩=some (.int .i64 Y.a0)∧w'.cell? ⟨bb,ob+k*6+1,none⟩=some (.int .i64 Y.b0)∧w'.cell? ⟨bb,ob+k*6+2,none⟩=some (.int .i64 Y.a1)∧w'.cell? ⟨bb,ob+k*6+3,none⟩=some (.int .i64 Y.b1)∧w'.cell? ⟨bb,ob+k*6+4,none⟩=some (.int .i64 Y.a2)∧w'.cell? ⟨bb,ob+k*6+5,none⟩=some (.int .i64 Y.b2))∧(w'.cell? ⟨bc,oc+k*6,none⟩=some (.int .i64 Z.a0)∧w'.cell? ⟨bc,oc+k*6+1,none⟩=some (.int .i64 Z.b0)∧w'.cell? ⟨bc,oc+k*6+2,none⟩=some (.int .i64 Z.a1)∧w'.cell? ⟨bc,oc+k*6+3,none⟩=some (.int .i64 Z.b1)∧w'.cell? ⟨bc,oc+k*6+4,none⟩=some (.int .i64 Z.a2)∧w'.cell? ⟨bc,oc+k*6+5,none⟩=some (.int .i64 Z.b2))∧w'.cell? ⟨W.heap.size,0,none⟩=some (.slice (some ⟨bb,ob,none⟩) j.bare.length c0)∧w'.cell? ⟨W.heap.size,1,none⟩=some (.slice (some ⟨bc,oc,none⟩) j.proofs.length c1)):=Lib.hid (fun w' h=>⟨SixAt.below sa (by omega) h,SixAt.below sb (by omega) h,SixAt.below sc (by omega) h,((B0.below h B0.lt).cell 0).trans h0,((B0.below h B0.lt).cell 1).trans h1⟩)
 have q:Hid (∀ (w:World) (ga gb gc:Nat),Blk w ga 70 X.cells→Blk w gb 70 Y.cells→Blk w gc 115 Z.cells→Calls Tryz.prog 69 #[.int .i64 key,.slice (some ⟨ga,0,none⟩) 1 1,.slice (some ⟨gb,0,none⟩) 1 1,.slice (some ⟨gc,0,none⟩) 1 1] w (Ret (.bool v) w)):=by
  intro w ga gb gc b1 b2 b3
  rw [Hv.out]
  exact ref_checkBare key _ _ _ 1 1 1 _ _ _ [X] [Y] [Z] w (rd_one b1) (rd_one b2) (rd_one b3) (by omega) (by omega) (by omega)
 clear sa sb sc r0 r1 hA hj h0 h1
 go_upto_region 3 with fail
 clear k0 k1
 go_region_held3 (fun w'=>(w'.cell? ⟨ba,oa+k*6,none⟩=some (.int .i64 X.a0)∧w'.cell? ⟨ba,oa+k*6+1,none⟩=some (.int .i64 X.b0)∧w'.cell? ⟨ba,oa+k*6+2,none⟩=some (.int .i64 X.a1)∧w'.cell? ⟨ba,oa+k*6+3,none⟩=some (.int .i64 X.b1)∧w'.cell? ⟨ba,oa+k*6+4,none⟩=some (.int .i64 X.a2)∧w'.cell? ⟨ba,oa+k*6+5,none⟩=some (.int .i64 X.b2))∧(w'.cell? ⟨bb,ob+k*6,none⟩=some (.int .i64 Y.a0)∧w'.cell? ⟨bb,ob+k*6+1,none⟩=some (.int .i64 Y.b0)∧w'.cell? ⟨bb,ob+k*6+2,none⟩=some (.int .i64 Y.a1)∧w'.cell? ⟨bb,ob+k*6+3,none⟩=some (.int .i64 Y.b1)∧w'.cell? ⟨bb,ob+k*6+4,none⟩=some (.int .i64 Y.a2)∧w'.cell? ⟨bb,ob+k*6+5,none⟩=some (.int .i64 Y.b2))∧(w'.cell? ⟨bc,oc+k*6,none⟩=some (.int .i64 Z.a0)∧w'.cell? ⟨bc,oc+k*6+1,none⟩=some (.int .i64 Z.b0)∧w'.cell? ⟨bc,oc+k*6+2,none⟩=some (.int .i64 Z.a1)∧w'.cell? ⟨bc,oc+k*6+3,none⟩=some (.int .i64 Z.b1)∧w'.cell? ⟨bc,oc+k*6+4,none⟩=some (.int .i64 Z.a2)∧w'.cell? ⟨bc,oc+k*6+5,none⟩=some (.int .i64 Z.b2))∧w'.cell? ⟨W.heap.size,0,none⟩=some (.slice (some ⟨bb,ob,none⟩) j.bare.length c0)∧w'.cell? ⟨W.heap.size,1,none⟩=some (.slice (some ⟨bc,oc,none⟩) j.proofs.length c1))
  (exact KS.out _ (by repeat (first | with_reducible exact B7 | with_reducible exact bRefl _ | with_reducible refine bAl ?_ _ | with_reducible refine bDr ?_)))
  (first
  | (go_simp;go_at_call 69;(refine (q.out _ _ _ _ ?_ ?_ ?_).mono ?_);(iterate 3 (focus (repeat (first | (refine Blk.dr ?_) | (refine Blk.new _ _ _ _ ?_;simp;done) | refine Blk.alloc ?_ _))));rintro e w7 ⟨rfl,b7⟩;have B7:Below w1.heap.size w1 w7:=bCall (by repeat (first | exact bRefl _ | refine bAl ?_ _ | refine bDr ?_)) b7))
 all_goals
  go_wp2_with fail
  go_ret
  exact ⟨rfl,bCall hb B7⟩
def AgainAt (key r0 r1 r2:Int) (x:Ltr) (k:Nat) (y:Ltr):Prop:=∀ j:Fin 3,(j.val<k→y.aAt j=x.aAt j*powV 4 (nAt r0 r1 r2 j) % 2147483579∧y.bAt j=x.bAt j*powV key (nAt r0 r1 r2 j) % 2147483579)∧(k≤j.val→y.aAt j=x.aAt j∧y.bAt j=x.bAt j)
theorem AgainAt.start {key r0 r1 r2:Int} (x:Ltr):AgainAt key r0 r1 r2 x 0 x:=fun j=>⟨fun h=>by omega,fun _=>⟨rfl,rfl⟩⟩
theorem AgainAt.next {key r0 r1 r2:Int} {x y:Ltr} {k:Nat} (i:Fin 3) (hi:i.val=k) (h:AgainAt key r0 r1 r2 x k y) {a b:Int} (ha:a=x.aAt i*powV 4 (nAt r0 r1 r2 i) % 2147483579) (hb:b=x.bAt i*powV key (nAt r0 r1 r2 i) % 2147483579) :
  AgainAt key r0 r1 r2 x (k+1) (setL y i a b):=fun j=>by
 obtain ⟨e1,e2⟩:=setL_at y i j a b
 rw [e1,e2]
 by_cases hji:j=i
 ·subst hji
  rw [if_pos rfl,if_pos rfl]
  exact ⟨fun _=>⟨ha,hb⟩,fun h=>by omega⟩
 ·rw [if_neg hji,if_neg hji]
  have:j.val≠i.val:=fun e=>hji (Fin.ext e)
  exact ⟨fun hj=>(h j).1 (by omega),fun hj=>(h j).2 (by omega)⟩
theorem AgainAt.done {key r0 r1 r2:Int} {x y:Ltr} (h:AgainAt key r0 r1 r2 x 3 y):moreL key r0 r1 r2 x=y:=by
 obtain ⟨a0,b0⟩:=(h 0).1 (by decide)
 obtain ⟨a1,b1⟩:=(h 1).1 (by decide)
 obtain ⟨a2,b2⟩:=(h 2).1 (by decide)
 refine Ltr.ext3 fun j=>?_
 match j with
 | 0=>rw [a0,b0];unfold moreL moreU;simp only [timesL_two,Ltr.aAt,Ltr.bAt,nAt,and_self]
 | 1=>rw [a1,b1];unfold moreL moreU;simp only [timesL_two,Ltr.aAt,Ltr.bAt,nAt,and_self]
 | 2=>rw [a2,b2];unfold moreL moreU;simp only [timesL_two,Ltr.aAt,Ltr.bAt,nAt,and_self]
theorem ref_again (key r0 r1 r2:Int) (x:Ltr) (W:World) :
  Calls Tryz.prog 139 #[.int .i64 key,.agg #[.int .i64 x.a0,.int .i64 x.b0,.int .i64 x.a1,.int .i64 x.b1,.int .i64 x.a2,.int .i64 x.b2],.agg #[.int .i64 r0,.int .i64 r1,.int .i64 r2]] W (Ret (.tuple #[(againV key x r0 r1 r2).agg,.int .i64 (againE key x)]) W):=by
 obtain ⟨W3,hW3⟩:∃ W3,W3=((W.alloc (.cells #[.int .i64 x.a0,.int .i64 x.b0,.int .i64 x.a1,.int .i64 x.b1,.int .i64 x.a2,.int .i64 x.b2] 70)).alloc (.cells #[.int .i64 r0,.int .i64 r1,.int .i64 r2] 27)).alloc (.cells #[.int .i64 0,.int .i64 0,.int .i64 0,.int .i64 0,.int .i64 0,.int .i64 0] 70):=⟨_,rfl⟩
 have h3:Below W.heap.size W W3:=by rw [hW3];exact bAl (bAl (bAl (bRefl W) _) _) _
 obtain ⟨v,hv⟩:∃ v,v=againV key x r0 r1 r2:=⟨_,rfl⟩
 obtain ⟨er,her⟩:∃ v,v=againE key x:=⟨_,rfl⟩
 rw [←hv,←her]
 have B1:Blk W3 W.heap.size 70 x.cells:=by rw [hW3];exact ((Blk.new _ _ _ _ rfl).alloc _).alloc _
 have B2:Blk W3 (W.heap.size+1) 27 #[.int .i64 r0,.int .i64 r1,.int .i64 r2]:=by rw [hW3];exact (Blk.new _ _ _ _ (by simp)).alloc _
 have B4:Blk W3 (W.heap.size+1+1) 70 #[.int .i64 0,.int .i64 0,.int .i64 0,.int .i64 0,.int .i64 0,.int .i64 0]:=by rw [hW3];exact Blk.new _ _ _ _ (by simp)
 have q:=ref_valid key W3
 cases hs:validB key
 ·have Hv:Hid (v=zeroL):=by show _=_;rw [hv];exact if_neg (by simp [hs])
  have He:Hid (er=90):=by show _=_;rw [her];exact if_neg (by simp [hs])
  rw [hs] at q
  have C5:=B4.set6 (.int .i64 0) (.int .i64 0) (.int .i64 0) (.int .i64 0) (.int .i64 0) (.int .i64 0)
  have h5:=bSet6 (b:=W.heap.size+1+1) h3 (by omega) (.int .i64 0) (.int .i64 0) (.int .i64 0) (.int .i64 0) (.int .i64 0) (.int .i64 0)
  clear hv her hs B1 B2
  go_enter Tryz.func139,Tryz.ntmps139
  unfold Ltr.agg
  go_upto_region 1 with fail
  rw [←hW3]
  clear hW3
  obtain ⟨m0,m1,m2,m3,m4,m5⟩:=B4.six
  obtain ⟨z0,z1,z2,z3,z4,z5⟩:=B4.six_free
  go_wp2_with fail
  (with_reducible refine q.mono ?_)
  rintro e w' ⟨rfl,rfl⟩
  clear q
  go_wp2_with fail
  change bodyPost _ _ _ _ _ (set6 W3 (W.heap.size+1+1) (.int .i64 0) (.int .i64 0) (.int .i64 0) (.int .i64 0) (.int .i64 0) (.int .i64 0))
  obtain ⟨e0,e1,e2,e3,e4,e5⟩:=C5.six
  exact bodyPost_ret (v := .tuple #[zeroL.agg,.int .i64 90]) (by simp [results,Tryz.results139,go_sem,zeroL,Ltr.agg,e0,e1,e2,e3,e4,e5]) rfl ⟨ret_li Hv.out He.out,h5⟩
 rw [hs] at q
 have q2:=ref_check x W3
 by_cases hg:x.good=true
 case neg =>
  have Hv:Hid (v=zeroL):=by show _=_;rw [hv];unfold againV;rw [if_pos hs,if_neg hg]
  have He:Hid (er=100):=by show _=_;rw [her];unfold againE;rw [if_pos hs,if_neg hg]
  rw [show x.err=100 from if_neg hg] at q2
  clear hv her hs hg
  go_enter Tryz.func139,Tryz.ntmps139
  unfold Ltr.agg
  go_upto_region 1 with fail
  rw [←hW3]
  clear hW3
  obtain ⟨k0,k1,k2,k3,k4,k5⟩:=six_of B1
  go_wp2_with fail
  (with_reducible refine q.mono ?_)
  rintro e w' ⟨rfl,rfl⟩
  clear q
  go_wp2_with fail
  (with_reducible refine q2.mono ?_)
  rintro e w' ⟨rfl,b'⟩
  clear q2 k0 k1 k2 k3 k4 k5
  have D4:=B4.below b' B4.lt
  have h4:=bCall h3 b'
  obtain ⟨m0,m1,m2,m3,m4,m5⟩:=D4.six
  obtain ⟨z0,z1,z2,z3,z4,z5⟩:=D4.six_free
  have C5:=D4.set6 (.int .i64 0) (.int .i64 0) (.int .i64 0) (.int .i64 0) (.int .i64 0) (.int .i64 0)
  have h5:=bSet6 (b:=W.heap.size+1+1) h4 (by omega) (.int .i64 0) (.int .i64 0) (.int .i64 0) (.int .i64 0) (.int .i64 0) (.int .i64 0)
  go_wp2_with fail
  change bodyPost _ _ _ _ _ (set6 w' (W.heap.size+1+1) (.int .i64 0) (.int .i64 0) (.int .i64 0) (.int .i64 0) (.int .i64 0) (.int .i64 0))
  obtain ⟨e0,e1,e2,e3,e4,e5⟩:=C5.six
  exact bodyPost_ret (v := .tuple #[zeroL.agg,.int .i64 100]) (by simp [results,Tryz.results139,go_sem,zeroL,Ltr.agg,e0,e1,e2,e3,e4,e5]) rfl ⟨ret_li Hv.out He.out,h5⟩
 have Hv:Hid (v=moreL key r0 r1 r2 x):=by show _=_;rw [hv];unfold againV;rw [if_pos hs,if_pos hg]
 have He:Hid (er=0):=by show _=_;rw [her];unfold againE;rw [if_pos hs,if_pos hg]
 have HP:=Lib.hid (good_inP hg)
 rw [show x.err=0 from if_pos hg] at q2
 clear hv her hs hg
 go_enter Tryz.func139,Tryz.ntmps139
 unfold Ltr.agg
 go_upto_region 1 with fail
 rw [←hW3]
 clear hW3
 obtain ⟨k0,k1,k2,k3,k4,k5⟩:=six_of B1
 go_wp2_with fail
 (with_reducible refine q.mono ?_)
 rintro e w' ⟨rfl,rfl⟩
 clear q
 go_wp2_with fail
 (with_reducible refine q2.mono ?_)
 rintro e w4 ⟨rfl,b'⟩
 have D1:=B1.below b' B1.lt
 have D2:=B2.below b' B2.lt
 have D4:=B4.below b' B4.lt
 have hb:=bCall h3 b'
 clear q2 k0 k1 k2 k3 k4 k5 B1 B2 B4 h3 b'
 go_wp2_with fail
 go_loopw [8] (fun i wr=>∃ (k:Int) (y:Ltr),i = .int .i64 k∧Below W.heap.size W wr∧Blk wr (W.heap.size+1) 27 #[.int .i64 r0,.int .i64 r1,.int .i64 r2]∧Blk wr (W.heap.size+1+1) 70 #[.int .i64 0,.int .i64 0,.int .i64 0,.int .i64 0,.int .i64 0,.int .i64 0]∧Blk wr W.heap.size 70 y.cells∧(k=0∨k=1∨k=2∨k=3)∧Hid (AgainAt key r0 r1 r2 x k.toNat y)) (fun i _=>3 - (intOf i).toNat)
 case atStart=>exact ⟨0,x,rfl,hb,D2,D4,D1,.inl rfl,Lib.hid (AgainAt.start x)⟩
 case round =>
  clear hb D1 D2 D4
  obtain ⟨k,y,rfl,hb,B2,B4,BS,hk4,HA⟩:=hrel
  rcases hk4 with rfl | rfl | rfl | rfl
  ·have hyx:=(HA.out 0).2 (by decide)
   have q1:=fun w=>ref_pw 4 r0 w
   have q2:=fun w=>ref_pw key r0 w
   obtain ⟨P1,hP1⟩:∃ P1,Hid (P1=powV 4 r0):=⟨_,Lib.hid rfl⟩
   obtain ⟨P2,hP2⟩:∃ P2,Hid (P2=powV key r0):=⟨_,Lib.hid rfl⟩
   obtain ⟨YA,hYA⟩:∃ Y,Hid (Y=y.a0):=⟨_,Lib.hid rfl⟩
   obtain ⟨YB,hYB⟩:∃ Y,Hid (Y=y.b0):=⟨_,Lib.hid rfl⟩
   have hya:Hid (YA=x.a0):=Lib.hid (hYA.out.trans hyx.1)
   have hyb:Hid (YB=x.b0):=Lib.hid (hYB.out.trans hyx.2)
   have q3:=fun w=>ref_times YA P1 w (by rw [hya.out];exact HP.out.1.1) (by rw [hP1.out];exact powV_inP _ _)
   have q4:=fun w=>ref_times YB P2 w (by rw [hyb.out];exact HP.out.1.2) (by rw [hP2.out];exact powV_inP _ _)
   obtain ⟨TA,hTA⟩:∃ T,Hid (T=YA*P1 % 2147483579):=⟨_,Lib.hid rfl⟩
   obtain ⟨TB,hTB⟩:∃ T,Hid (T=YB*P2 % 2147483579):=⟨_,Lib.hid rfl⟩
   rw [←hP1.out] at q1
   rw [←hP2.out] at q2
   rw [←hTA.out] at q3
   rw [←hTB.out] at q4
   have HN:=Lib.hid (AgainAt.next 0 (show (0:Fin 3).val=(0:Int).toNat by rfl) HA.out (a:=TA) (b:=TB) (by rw [hTA.out,hya.out,hP1.out];rfl) (by rw [hTB.out,hyb.out,hP2.out];rfl))
   have KS:Hid (∀ w',Below wr.heap.size wr w'→w'.cell? ⟨W.heap.size,0,none⟩=some (.int .i64 YA)∧w'.cell? ⟨W.heap.size,1,none⟩=some (.int .i64 YB)∧w'.cell? ⟨W.heap.size+1,0,none⟩=some (.int .i64 r0)):=Lib.hid (fun w' h=>⟨by rw [hYA.out];exact (BS.below h BS.lt).cell 0,by rw [hYB.out];exact (BS.below h BS.lt).cell 1,(B2.below h B2.lt).cell 0⟩)
   clear hP1 hP2 hYA hYB hya hyb hTA hTB hyx HA
   go_upto_region 8 with fail
   refine wp_region_schB (f:=22) KS [(0,1),(1,1),(2,1),(3,1),(4,2),(5,1),(6,1),(7,2),(10,1),(11,1),(12,1),(13,2),(14,1),(15,1),(16,1),(17,2),(8,0),(9,0),(18,0),(19,0),(20,1),(21,1),(22,3)] ?_
   simp only [pickS,List.getElem?_cons_zero,List.getElem?_cons_succ]
   iterate 4 refine wpSched_t ?_
   refine wpSched_r ?_
   iterate 2 refine wpSched_t ?_
   refine wpSched_r ?_
   iterate 3 refine wpSched_t ?_
   refine wpSched_r ?_
   iterate 3 refine wpSched_t ?_
   refine wpSched_r ?_
   refine wpSched_force (fun K hK=>?_)
   go_simp;(first | (go_at_call 71;(first | (with_reducible refine (q1 _).mono ?_) | (with_reducible refine (q2 _).mono ?_));rintro e w9 ⟨rfl,hw9⟩;subst hw9) | (go_at_call 72;(first | (with_reducible refine (q3 _).mono ?_) | (with_reducible refine (q4 _).mono ?_));rintro e w9 ⟨rfl,hw9⟩;subst hw9) | skip)
   refine shut_go hK KS ?_
   clear hK K
   refine wpSched_force (fun K hK=>?_)
   go_simp;(first | (go_at_call 71;(first | (with_reducible refine (q1 _).mono ?_) | (with_reducible refine (q2 _).mono ?_));rintro e w9 ⟨rfl,hw9⟩;subst hw9) | (go_at_call 72;(first | (with_reducible refine (q3 _).mono ?_) | (with_reducible refine (q4 _).mono ?_));rintro e w9 ⟨rfl,hw9⟩;subst hw9) | skip)
   refine shut_go hK KS ?_
   clear hK K
   refine wpSched_force (fun K hK=>?_)
   go_simp;(first | (go_at_call 71;(first | (with_reducible refine (q1 _).mono ?_) | (with_reducible refine (q2 _).mono ?_));rintro e w9 ⟨rfl,hw9⟩;subst hw9) | (go_at_call 72;(first | (with_reducible refine (q3 _).mono ?_) | (with_reducible refine (q4 _).mono ?_));rintro e w9 ⟨rfl,hw9⟩;subst hw9) | skip)
   refine shut_go hK KS ?_
   clear hK K
   refine wpSched_force (fun K hK=>?_)
   go_simp;(first | (go_at_call 71;(first | (with_reducible refine (q1 _).mono ?_) | (with_reducible refine (q2 _).mono ?_));rintro e w9 ⟨rfl,hw9⟩;subst hw9) | (go_at_call 72;(first | (with_reducible refine (q3 _).mono ?_) | (with_reducible refine (q4 _).mono ?_));rintro e w9 ⟨rfl,hw9⟩;subst hw9) | skip)
   refine shut_go hK KS ?_
   clear hK K
   iterate 2 refine wpSched_t ?_
   refine wpSched_last ?_
   first | simp only [List.map_nil] | simp only [List.map_cons,List.map_nil]
   have BS2:Blk wr.drew W.heap.size 70 _:=BS.dr
   have E2:Blk wr.drew (W.heap.size+1) 27 _:=B2.dr
   have E4:Blk wr.drew (W.heap.size+1+1) 70 _:=B4.dr
   have hb2:=bDr hb
   clear BS B2 B4 hb q1 q2 q3 q4 KS
   generalize wr.drew=w5 at *
   obtain ⟨z0,z1,z2,z3,z4,z5⟩:=BS2.six_free
   obtain ⟨m0,m1,m2,m3,m4,m5⟩:=six_of BS2
   have BN:=BS2.setL0 TA TB
   go_wp2_with fail
   refine NoPanic.normal ?_
   go_wp2_with fail
   exact ⟨⟨1,_,rfl,bSet (bSet hb2 (Nat.le_refl _) _) (Nat.le_refl _) _,(E2.far (by show W.heap.size+1≠W.heap.size;omega) _).far (by show W.heap.size+1≠W.heap.size;omega) _,(E4.far (by show W.heap.size+1+1≠W.heap.size;omega) _).far (by show W.heap.size+1+1≠W.heap.size;omega) _,BN,.inr (.inl rfl),HN⟩,by simp [intOf]⟩
  ·have hyx:=(HA.out 1).2 (by decide)
   have q1:=fun w=>ref_pw 4 r1 w
   have q2:=fun w=>ref_pw key r1 w
   obtain ⟨P1,hP1⟩:∃ P1,Hid (P1=powV 4 r1):=⟨_,Lib.hid rfl⟩
   obtain ⟨P2,hP2⟩:∃ P2,Hid (P2=powV key r1):=⟨_,Lib.hid rfl⟩
   obtain ⟨YA,hYA⟩:∃ Y,Hid (Y=y.a1):=⟨_,Lib.hid rfl⟩
   obtain ⟨YB,hYB⟩:∃ Y,Hid (Y=y.b1):=⟨_,Lib.hid rfl⟩
   have hya:Hid (YA=x.a1):=Lib.hid (hYA.out.trans hyx.1)
   have hyb:Hid (YB=x.b1):=Lib.hid (hYB.out.trans hyx.2)
   have q3:=fun w=>ref_times YA P1 w (by rw [hya.out];exact HP.out.2.1.1) (by rw [hP1.out];exact powV_inP _ _)
   have q4:=fun w=>ref_times YB P2 w (by rw [hyb.out];exact HP.out.2.1.2) (by rw [hP2.out];exact powV_inP _ _)
   obtain ⟨TA,hTA⟩:∃ T,Hid (T=YA*P1 % 2147483579):=⟨_,Lib.hid rfl⟩
   obtain ⟨TB,hTB⟩:∃ T,Hid (T=YB*P2 % 2147483579):=⟨_,Lib.hid rfl⟩
   rw [←hP1.out] at q1
   rw [←hP2.out] at q2
   rw [←hTA.out] at q3
   rw [←hTB.out] at q4
   have HN:=Lib.hid (AgainAt.next 1 (show (1:Fin 3).val=(1:Int).toNat by rfl) HA.out (a:=TA) (b:=TB) (by rw [hTA.out,hya.out,hP1.out];rfl) (by rw [hTB.out,hyb.out,hP2.out];rfl))
   have KS:Hid (∀ w',Below wr.heap.size wr w'→w'.cell? ⟨W.heap.size,2,none⟩=some (.int .i64 YA)∧w'.cell? ⟨W.heap.size,3,none⟩=some (.int .i64 YB)∧w'.cell? ⟨W.heap.size+1,1,none⟩=some (.int .i64 r1)):=Lib.hid (fun w' h=>⟨by rw [hYA.out];exact (BS.below h BS.lt).cell 2,by rw [hYB.out];exact (BS.below h BS.lt).cell 3,(B2.below h B2.lt).cell 1⟩)
   clear hP1 hP2 hYA hYB hya hyb hTA hTB hyx HA
   go_upto_region 8 with fail
   refine wp_region_schB (f:=22) KS [(0,1),(1,1),(2,1),(3,1),(4,2),(5,1),(6,1),(7,2),(10,1),(11,1),(12,1),(13,2),(14,1),(15,1),(16,1),(17,2),(8,0),(9,0),(18,0),(19,0),(20,1),(21,1),(22,3)] ?_
   simp only [pickS,List.getElem?_cons_zero,List.getElem?_cons_succ]
   iterate 4 refine wpSched_t ?_
   refine wpSched_r ?_
   iterate 2 refine wpSched_t ?_
   refine wpSched_r ?_
   iterate 3 refine wpSched_t ?_
   refine wpSched_r ?_
   iterate 3 refine wpSched_t ?_
   refine wpSched_r ?_
   refine wpSched_force (fun K hK=>?_)
   go_simp;(first | (go_at_call 71;(first | (with_reducible refine (q1 _).mono ?_) | (with_reducible refine (q2 _).mono ?_));rintro e w9 ⟨rfl,hw9⟩;subst hw9) | (go_at_call 72;(first | (with_reducible refine (q3 _).mono ?_) | (with_reducible refine (q4 _).mono ?_));rintro e w9 ⟨rfl,hw9⟩;subst hw9) | skip)
   refine shut_go hK KS ?_
   clear hK K
   refine wpSched_force (fun K hK=>?_)
   go_simp;(first | (go_at_call 71;(first | (with_reducible refine (q1 _).mono ?_) | (with_reducible refine (q2 _).mono ?_));rintro e w9 ⟨rfl,hw9⟩;subst hw9) | (go_at_call 72;(first | (with_reducible refine (q3 _).mono ?_) | (with_reducible refine (q4 _).mono ?_));rintro e w9 ⟨rfl,hw9⟩;subst hw9) | skip)
   refine shut_go hK KS ?_
   clear hK K
   refine wpSched_force (fun K hK=>?_)
   go_simp;(first | (go_at_call 71;(first | (with_reducible refine (q1 _).mono ?_) | (with_reducible refine (q2 _).mono ?_));rintro e w9 ⟨rfl,hw9⟩;subst hw9) | (go_at_call 72;(first | (with_reducible refine (q3 _).mono ?_) | (with_reducible refine (q4 _).mono ?_));rintro e w9 ⟨rfl,hw9⟩;subst hw9) | skip)
   refine shut_go hK KS ?_
   clear hK K
   refine wpSched_force (fun K hK=>?_)
   go_simp;(first | (go_at_call 71;(first | (with_reducible refine (q1 _).mono ?_) | (with_reducible refine (q2 _).mono ?_));rintro e w9 ⟨rfl,hw9⟩;subst hw9) | (go_at_call 72;(first | (with_reducible refine (q3 _).mono ?_) | (with_reducible refine (q4 _).mono ?_));rintro e w9 ⟨rfl,hw9⟩;subst hw9) | skip)
   refine shut_go hK KS ?_
   clear hK K
   iterate 2 refine wpSched_t ?_
   refine wpSched_last ?_
   first | simp only [List.map_nil] | simp only [List.map_cons,List.map_nil]
   have BS2:Blk wr.drew W.heap.size 70 _:=BS.dr
   have E2:Blk wr.drew (W.heap.size+1) 27 _:=B2.dr
   have E4:Blk wr.drew (W.heap.size+1+1) 70 _:=B4.dr
   have hb2:=bDr hb
   clear BS B2 B4 hb q1 q2 q3 q4 KS
   generalize wr.drew=w5 at *
   obtain ⟨z0,z1,z2,z3,z4,z5⟩:=BS2.six_free
   obtain ⟨m0,m1,m2,m3,m4,m5⟩:=six_of BS2
   have BN:=BS2.setL1 TA TB
   go_wp2_with fail
   refine NoPanic.normal ?_
   go_wp2_with fail
   exact ⟨⟨2,_,rfl,bSet (bSet hb2 (Nat.le_refl _) _) (Nat.le_refl _) _,(E2.far (by show W.heap.size+1≠W.heap.size;omega) _).far (by show W.heap.size+1≠W.heap.size;omega) _,(E4.far (by show W.heap.size+1+1≠W.heap.size;omega) _).far (by show W.heap.size+1+1≠W.heap.size;omega) _,BN,.inr (.inr (.inl rfl)),HN⟩,by simp [intOf]⟩
  ·have hyx:=(HA.out 2).2 (by decide)
   have q1:=fun w=>ref_pw 4 r2 w
   have q2:=fun w=>ref_pw key r2 w
   obtain ⟨P1,hP1⟩:∃ P1,Hid (P1=powV 4 r2):=⟨_,Lib.hid rfl⟩
   obtain ⟨P2,hP2⟩:∃ P2,Hid (P2=powV key r2):=⟨_,Lib.hid rfl⟩
   obtain ⟨YA,hYA⟩:∃ Y,Hid (Y=y.a2):=⟨_,Lib.hid rfl⟩
   obtain ⟨YB,hYB⟩:∃ Y,Hid (Y=y.b2):=⟨_,Lib.hid rfl⟩
   have hya:Hid (YA=x.a2):=Lib.hid (hYA.out.trans hyx.1)
   have hyb:Hid (YB=x.b2):=Lib.hid (hYB.out.trans hyx.2)
   have q3:=fun w=>ref_times YA P1 w (by rw [hya.out];exact HP.out.2.2.1) (by rw [hP1.out];exact powV_inP _ _)
   have q4:=fun w=>ref_times YB P2 w (by rw [hyb.out];exact HP.out.2.2.2) (by rw [hP2.out];exact powV_inP _ _)
   obtain ⟨TA,hTA⟩:∃ T,Hid (T=YA*P1 % 2147483579):=⟨_,Lib.hid rfl⟩
   obtain ⟨TB,hTB⟩:∃ T,Hid (T=YB*P2 % 2147483579):=⟨_,Lib.hid rfl⟩
   rw [←hP1.out] at q1
   rw [←hP2.out] at q2
   rw [←hTA.out] at q3
   rw [←hTB.out] at q4
   have HN:=Lib.hid (AgainAt.next 2 (show (2:Fin 3).val=(2:Int).toNat by rfl) HA.out (a:=TA) (b:=TB) (by rw [hTA.out,hya.out,hP1.out];rfl) (by rw [hTB.out,hyb.out,hP2.out];rfl))
   have KS:Hid (∀ w',Below wr.heap.size wr w'→w'.cell? ⟨W.heap.size,4,none⟩=some (.int .i64 YA)∧w'.cell? ⟨W.heap.size,5,none⟩=some (.int .i64 YB)∧w'.cell? ⟨W.heap.size+1,2,none⟩=some (.int .i64 r2)):=Lib.hid (fun w' h=>⟨by rw [hYA.out];exact (BS.below h BS.lt).cell 4,by rw [hYB.out];exact (BS.below h BS.lt).cell 5,(B2.below h B2.lt).cell 2⟩)
   clear hP1 hP2 hYA hYB hya hyb hTA hTB hyx HA
   go_upto_region 8 with fail
   refine wp_region_schB (f:=22) KS [(0,1),(1,1),(2,1),(3,1),(4,2),(5,1),(6,1),(7,2),(10,1),(11,1),(12,1),(13,2),(14,1),(15,1),(16,1),(17,2),(8,0),(9,0),(18,0),(19,0),(20,1),(21,1),(22,3)] ?_
   simp only [pickS,List.getElem?_cons_zero,List.getElem?_cons_succ]
   iterate 4 refine wpSched_t ?_
   refine wpSched_r ?_
   iterate 2 refine wpSched_t ?_
   refine wpSched_r ?_
   iterate 3 refine wpSched_t ?_
   refine wpSched_r ?_
   iterate 3 refine wpSched_t ?_
   refine wpSched_r ?_
   refine wpSched_force (fun K hK=>?_)
   go_simp;(first | (go_at_call 71;(first | (with_reducible refine (q1 _).mono ?_) | (with_reducible refine (q2 _).mono ?_));rintro e w9 ⟨rfl,hw9⟩;subst hw9) | (go_at_call 72;(first | (with_reducible refine (q3 _).mono ?_) | (with_reducible refine (q4 _).mono ?_));rintro e w9 ⟨rfl,hw9⟩;subst hw9) | skip)
   refine shut_go hK KS ?_
   clear hK K
   refine wpSched_force (fun K hK=>?_)
   go_simp;(first | (go_at_call 71;(first | (with_reducible refine (q1 _).mono ?_) | (with_reducible refine (q2 _).mono ?_));rintro e w9 ⟨rfl,hw9⟩;subst hw9) | (go_at_call 72;(first | (with_reducible refine (q3 _).mono ?_) | (with_reducible refine (q4 _).mono ?_));rintro e w9 ⟨rfl,hw9⟩;subst hw9) | skip)
   refine shut_go hK KS ?_
   clear hK K
   refine wpSched_force (fun K hK=>?_)
   go_simp;(first | (go_at_call 71;(first | (with_reducible refine (q1 _).mono ?_) | (with_reducible refine (q2 _).mono ?_));rintro e w9 ⟨rfl,hw9⟩;subst hw9) | (go_at_call 72;(first | (with_reducible refine (q3 _).mono ?_) | (with_reducible refine (q4 _).mono ?_));rintro e w9 ⟨rfl,hw9⟩;subst hw9) | skip)
   refine shut_go hK KS ?_
   clear hK K
   refine wpSched_force (fun K hK=>?_)
   go_simp;(first | (go_at_call 71;(first | (with_reducible refine (q1 _).mono ?_) | (with_reducible refine (q2 _).mono ?_));rintro e w9 ⟨rfl,hw9⟩;subst hw9) | (go_at_call 72;(first | (with_reducible refine (q3 _).mono ?_) | (with_reducible refine (q4 _).mono ?_));rintro e w9 ⟨rfl,hw9⟩;subst hw9) | skip)
   refine shut_go hK KS ?_
   clear hK K
   iterate 2 refine wpSched_t ?_
   refine wpSched_last ?_
   first | simp only [List.map_nil] | simp only [List.map_cons,List.map_nil]
   have BS2:Blk wr.drew W.heap.size 70 _:=BS.dr
   have E2:Blk wr.drew (W.heap.size+1) 27 _:=B2.dr
   have E4:Blk wr.drew (W.heap.size+1+1) 70 _:=B4.dr
   have hb2:=bDr hb
   clear BS B2 B4 hb q1 q2 q3 q4 KS
   generalize wr.drew=w5 at *
   obtain ⟨z0,z1,z2,z3,z4,z5⟩:=BS2.six_free
   obtain ⟨m0,m1,m2,m3,m4,m5⟩:=six_of BS2
   have BN:=BS2.setL2 TA TB
   go_wp2_with fail
   refine NoPanic.normal ?_
   go_wp2_with fail
   exact ⟨⟨3,_,rfl,bSet (bSet hb2 (Nat.le_refl _) _) (Nat.le_refl _) _,(E2.far (by show W.heap.size+1≠W.heap.size;omega) _).far (by show W.heap.size+1≠W.heap.size;omega) _,(E4.far (by show W.heap.size+1+1≠W.heap.size;omega) _).far (by show W.heap.size+1+1≠W.heap.size;omega) _,BN,.inr (.inr (.inr rfl)),HN⟩,by simp [intOf]⟩
  ·have Hy:=Lib.hid (AgainAt.done HA.out)
   obtain ⟨z0,z1,z2,z3,z4,z5⟩:=B4.six_free
   obtain ⟨m0,m1,m2,m3,m4,m5⟩:=six_of BS
   obtain ⟨u0,u1,u2,u3,u4,u5⟩:=B4.six
   clear BS HA
   have C5:=B4.set6 (.int .i64 y.a0) (.int .i64 y.b0) (.int .i64 y.a1) (.int .i64 y.b1) (.int .i64 y.a2) (.int .i64 y.b2)
   have h5:=bSet6 (b:=W.heap.size+1+1) hb (by omega) (.int .i64 y.a0) (.int .i64 y.b0) (.int .i64 y.a1) (.int .i64 y.b1) (.int .i64 y.a2) (.int .i64 y.b2)
   go_wp2_with fail
   change bodyPost _ _ _ _ _ (set6 wr (W.heap.size+1+1) (.int .i64 y.a0) (.int .i64 y.b0) (.int .i64 y.a1) (.int .i64 y.b1) (.int .i64 y.a2) (.int .i64 y.b2))
   obtain ⟨e0,e1,e2,e3,e4,e5⟩:=C5.six
   exact bodyPost_ret (v := .tuple #[y.agg,.int .i64 0]) (by simp [results,Tryz.results139,go_sem,Ltr.agg,e0,e1,e2,e3,e4,e5]) rfl ⟨ret_li (by rw [Hv.out,Hy.out]) He.out,h5⟩
end Go.Proofs.YtoeobcmmafncmaaGreatDoor

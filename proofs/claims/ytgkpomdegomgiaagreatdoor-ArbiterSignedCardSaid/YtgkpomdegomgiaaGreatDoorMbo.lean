/- frankinglaw56.sane, walked. -/
import Derived.Test.YtgkpomdegomgiaaGreatDoorMbm
import Derived.Test.YtgkpomdegomgiaaGreatDoorMbn
import Derived.Test.YtgkpomdegomgiaaGreatDoorMbj
import Derived.Test.YtgkpomdegomgiaaGreatDoorMbh
import Derived.Test.YtgkpomdegomgiaaGreatDoorMbb
import Derived.Test.YtgkpomdegomgiaaGreatDoorMbl
set_option maxRecDepth 1000000
set_option maxHeartbeats 16000000
namespace Go.Proofs.YtgkpomdegomgiaaGreatDoor
open Go.RowKit
def JudgeOk:Prop:=∀ (a:Ca) (l:List Int) (Al:Option Addr) (cl:Nat) (cs:Array Value) (jcs:List (Array Value)) (W:World),CaAt W W.heap.size cs jcs a→Rd W W.heap.size 1 Al l.length (ints l)→l.length≤1000→l.length≤cl→cl≤9223372036854775807→ShaG W →
    Calls Tryz.prog 9 #[.slice Al l.length cl,.agg cs] W (Ret (judV (a.judge l)) W)
theorem judge_ok:JudgeOk:=fun a l Al cl cs jcs W h hl h1 h2 h3 hG=>ar_judge a l Al cl cs jcs W h hl h1 h2 h3 hG
theorem JudgeOk.of (hP:JudgeOk) {a:Ca} {l:List Int} {Al:Option Addr} {cl n:Nat} {cs:Array Value} {jcs:List (Array Value)} {W:World} (h:CaAt W W.heap.size cs jcs a) (hn:l.length=n) (hl:Rd W W.heap.size 1 Al n (ints l)) (h1:n≤1000) (h2:n≤cl) (h3:cl≤9223372036854775807) (hG:ShaG W) {x y e:Int} (hj:a.judge l=(x,y,e)) :
    Calls Tryz.prog 9 #[.slice Al n cl,.agg cs] W (Ret (.tuple #[.agg #[.int .i64 x,.int .i64 y],.int .i64 e]) W):=by
  subst hn
  have:=hP a l Al cl cs jcs W h hl h1 h2 h3 hG
  rw [hj] at this
  exact this
theorem caT_at {w:World} {B:Nat} {cs:Array Value} {jcs:List (Array Value)} {c:Cs} (C:CaseAt w B cs jcs c) (r0:cs[0]?=some (.int .i64 0)) (r1:cs[1]?=some (.int .i64 0)) (r2:cs[2]?=some (.int .i64 0)) (hl:c.jobs.length=2) (hk:c.keys=[3,4].map pubV)
    (hj:∀ (k:Nat) (jc:Array Value),jcs[k]?=some jc→∀ (i:Nat) (v:Value),zeroH.cl[i]?=some v→jc[7+i]?=some v) (hm:∀ k,(c.jobAt k).mo=[]):CaAt w B cs jcs (caT c):=by
  refine ⟨C,r0,r1,r2,hl.symm,fun k jc h h1 h2=>?_,fun h hh=>?_,fun x hx=>?_,fun k x hx=>?_,fun k=>?_⟩
  · have:h=zeroH:=by
      have:=List.mem_of_getElem? h2
      simp only [caT,List.mem_cons,List.not_mem_nil,or_false,or_self] at this
      exact this
    subst this
    exact hj k jc h1
  · simp only [caT,List.mem_cons,List.not_mem_nil,or_false,or_self] at hh
    subst hh
    exact zeroH_ok
  · have hx':x∈c.keys:=hx
    rw [hk] at hx'
    simp only [List.map,pub3,pub4,List.mem_cons,List.not_mem_nil,or_false] at hx'
    unfold inI
    rcases hx' with rfl | rfl <;> omega
  · rw [show ((caT c).c.jobAt k).mo=[] from hm k] at hx
    cases hx
  · rw [show ((caT c).c.jobAt k).mo=[] from hm k]
    show 0≤1000
    omega
theorem zero_ca (w:World):CaAt w w.heap.size #[.int .i64 0,.int .i64 0,.int .i64 0,.slice none 0 0,.slice none 0 0,.slice none 0 0,.int .i64 0,.int .i64 0,.int .i64 0,.int .i64 0,.int .i64 0,.int .i64 0,.int .i64 0,.slice none 0 0,.int .i64 0] [] ⟨zeroC,[],0,0,0⟩ :=
  ⟨zero_case w,rfl,rfl,rfl,rfl,fun k jc h h1=>(by simp at h1),fun h hh=>(by cases hh),fun x hx=>(by cases hx),fun k x hx=>(by
    have:((⟨zeroC,[],0,0,0⟩:Ca).c.jobAt k).mo=[]:=rfl
    rw [this] at hx;cases hx),fun k=>(by show 0≤1000;omega)⟩
theorem cT_mo (x:Int) (k:Nat):((cT x).jobAt k).mo=[]:=by
  match k with
  | 0=>rfl
  | 1=>rfl
  | k+2=>rfl
theorem eqVer (a b c d:Int) (w:World):(binOp .eql 37 (.agg #[.int .i64 a,.int .i64 b]) (.agg #[.int .i64 c,.int .i64 d])).run Tryz.prog w = .ok (.bool (decide (a=c∧b=d))) w:=by
  have hS:Tryz.prog.underlying 37=some (.struct (Tryz.prog.fieldsOf 37)):=by kernel_rfl
  have hp:Tryz.prog.stoodInHeld 37=false:=by kernel_rfl
  have u3:=Tryz.underlying3
  have a3:=Tryz.isAgg3
  have z3:=Tryz.sizeOf3
  have h:(Op.equalIn 10000 37 (.agg #[.int .i64 a,.int .i64 b]) (.agg #[.int .i64 c,.int .i64 d])).run Tryz.prog w = .ok (decide (a=c∧b=d)) w:=by
    rw [show (10000:Nat)=9998+1+1 from rfl,run_equalIn_agg w (9998+1) 37 _ _ hS hp]
    simp only [Program.fieldsOf,Tryz.underlying37]
    go_simp
    by_cases h1:a=c <;> by_cases h2:b=d <;> simp [h1,h2]
  rw [run_eql_struct,h];rfl
theorem CaseAt.setX {w:World} {B:Nat} {cs:Array Value} {jcs:List (Array Value)} {c:Cs} (h:CaseAt w B cs jcs c) (x:Int):CaseAt w B (cs.setIfInBounds 7 (.int .i64 x)) jcs { c with words:=⟨x,c.words.y,c.words.z⟩ }:=by
  have hs:=h.size
  refine ⟨by simp only [Array.size_setIfInBounds,hs],one_set h.one 7 rfl,?_,?_,?_,h.jlen,h.job,?_,by rw [set_eq (by omega)],?_,?_,?_,?_,?_,?_,h.stepOk⟩
  all_goals rw [set_ne (by decide)]
  · exact h.first
  · exact h.keys
  · exact h.jobs
  · exact h.place
  · exact h.w1
  · exact h.w2
  · exact h.r0
  · exact h.r1
  · exact h.r2
  · exact h.steps
theorem JobIn'.setIn {w:World} {B:Nat} {jc:Array Value} {j:Jb} (h:JobIn' w B jc j) {v:Value} {l:List Ltr} (hv:LsAt w B (some v) l) (hl:l.length≤1000):JobIn' w B (jc.setIfInBounds 2 v) { j with mi:=l }:=by
  obtain ⟨a1,a2,a3,a4⟩:=h
  have h1:v.oneCell'=true:=by obtain ⟨A,cc,e,-⟩:=hv;injection e with e;subst e;rfl
  refine ⟨by rw [Array.size_setIfInBounds,a1],one_set a2 2 h1,⟨?_,?_,?_,?_,?_,?_,?_⟩,a4.1,by show l.length≤_;omega,a4.2.2.1,a4.2.2.2⟩
  · show LsAt w B ((jc.setIfInBounds 2 v)[0]?) _;rw [set_ne (by decide)];exact a3.h0
  · show LsAt w B ((jc.setIfInBounds 2 v)[1]?) _;rw [set_ne (by decide)];exact a3.h1
  · show LsAt w B ((jc.setIfInBounds 2 v)[2]?) _;rw [set_eq (by omega)];exact hv
  · show LsAt w B ((jc.setIfInBounds 2 v)[3]?) _;rw [set_ne (by decide)];exact a3.h3
  · show LsAt w B ((jc.setIfInBounds 2 v)[4]?) _;rw [set_ne (by decide)];exact a3.h4
  · show DsAt w B ((jc.setIfInBounds 2 v)[5]?) _;rw [set_ne (by decide)];exact a3.h5
  · show DsAt w B ((jc.setIfInBounds 2 v)[6]?) _;rw [set_ne (by decide)];exact a3.h6
theorem aw_sane (hP:JudgeOk) (W:World) (hG:ShaG W):Calls Tryz.prog 7 #[] W (Ret (.bool true) W):=by
  have hq:=fun (a b c d:Int) (w:World)=>eqVer a b c d w
  go_enter Tryz.func7,Tryz.ntmps7
  go_wp2_with fail
  (with_reducible refine (aw_bare W hG).mono ?_)
  rintro e w1 ⟨hb,csA,jcs,rfl,C,r0,r1,r2,g1,g2,g3,g4,rfl⟩
  dsimp only
  (refine ‹∀ (a:Act) (w:World),wpList _ _ _ _ a w→_› _ _ ?_)
  iterate 12 go_step
  have hs:=C.size
  refine wpList_storeG (by rfl) (by rfl) (by rfl) (by rfl) (store_newW (by rw [hs];exact case_info') (by rw [hs];rfl) C.one) ?_
  simp only [Act.put]
  have BC:=Blk.new w1 33 csA _ rfl
  have b12:=bAl (bRefl w1) (.cells csA 33)
  replace C:=C.below b12
  have hcb:W.heap.size≤w1.heap.size:=hb.size
  replace hb:=bCall hb b12
  clear b12
  generalize w1.alloc (.cells csA 33)=w2 at *
  generalize w1.heap.size=cb at *
  have hJ:∀ (k:Nat) (jc:Array Value),([jobC g1 g2 1,jobC g3 g4 1]:List (Array Value))[k]?=some jc→∀ (i:Nat) (v:Value),zeroH.cl[i]?=some v→jc[7+i]?=some v:=fun k jc hk i v hv=>by
    match k,hk with
    | 0,hk =>
      obtain rfl:_=jc:=by simpa using hk
      exact jobC_hand _ _ _ i v hv
    | 1,hk =>
      obtain rfl:_=jc:=by simpa using hk
      exact jobC_hand _ _ _ i v hv
    | k+2,hk=>simp at hk
  have hCT:∀ w B,CaseAt w B csA [jobC g1 g2 1,jobC g3 g4 1] (cT 1)→CaAt w B csA [jobC g1 g2 1,jobC g3 g4 1] (caT (cT 1)):=fun w B C=>caT_at C r0 r1 r2 (bareJobs_length [3,4] [lT]) rfl hJ (cT_mo 1)
  go_upto_region 4 with fail
  have bA:=bAl (bRefl w2) (.cells #[.int .i64 0,.int .i64 1] 3)
  have q:=hP.of (a:=caT (cT 1)) (l:=[0,1]) (n:=2) (cl:=2) (hCT _ _ ((C.below ((bAl (bRefl w2) (.cells #[.int .i64 0,.int .i64 1] 3)).mono (Nat.le_of_lt BC.lt))).more (Nat.le_of_lt (BC.alloc (.cells #[.int .i64 0,.int .i64 1] 3)).lt))) rfl (Rd.new w2 (ints [0,1]) _ 1 2 _ rfl rfl) (by omega) (by omega) (by omega) (hG.below (bCall hb bA)) jt_clear
  have LC:=load_case (BC.alloc (.cells #[.int .i64 0,.int .i64 1] 3)) hs
  apply wp_region_lit
  iterate 3 go_step
  refine wpList_loadG (by rfl) (by rfl) (by rfl) LC ?_
  simp only [Act.put,List.setIfInBounds_toArray,List.set_cons_zero,List.set_cons_succ]
  clear LC
  go_wp2_with fail
  (with_reducible refine q.mono ?_)
  rintro e w3 ⟨rfl,bN⟩
  clear q
  replace bA:=bCall bA bN
  clear bN
  replace C:=C.below (bA.mono (Nat.le_of_lt BC.lt))
  replace BC:=BC.below bA BC.lt
  replace hb:=bCall hb bA
  clear bA
  go_upto_region 5 with fail
  have V3:=Blk.new w3 37 #[.int .i64 (-1),.int .i64 0] _ rfl
  have bA:=bAl (bRefl w3) (.cells #[.int .i64 (-1),.int .i64 0] 37)
  replace C:=C.below (bA.mono (Nat.le_of_lt BC.lt))
  replace BC:=BC.below bA BC.lt
  replace hb:=bCall hb bA
  clear bA
  generalize w3.alloc (.cells #[.int .i64 (-1),.int .i64 0] 37)=w4 at *
  generalize w3.heap.size=vV3 at *
  have bA:=bAl (bRefl w4) (.cells #[.int .i64 0] 3)
  have q:=hP.of (a:=caT (cT 1)) (l:=[0]) (n:=1) (cl:=1) (hCT _ _ ((C.below ((bAl (bRefl w4) (.cells #[.int .i64 0] 3)).mono (Nat.le_of_lt BC.lt))).more (Nat.le_of_lt (BC.alloc (.cells #[.int .i64 0] 3)).lt))) rfl (Rd.new w4 (ints [0]) _ 1 1 _ rfl rfl) (by omega) (by omega) (by omega) (hG.below (bCall hb bA)) jt_short
  have LC:=load_case (BC.alloc (.cells #[.int .i64 0] 3)) hs
  apply wp_region_lit
  iterate 3 go_step
  refine wpList_loadG (by rfl) (by rfl) (by rfl) LC ?_
  simp only [Act.put,List.setIfInBounds_toArray,List.set_cons_zero,List.set_cons_succ]
  clear LC
  go_wp2_with fail
  (with_reducible refine q.mono ?_)
  rintro e w5 ⟨rfl,bN⟩
  clear q
  replace bA:=bCall bA bN
  clear bN
  replace C:=C.below (bA.mono (Nat.le_of_lt BC.lt))
  replace BC:=BC.below bA BC.lt
  replace V3:=V3.below bA V3.lt
  replace hb:=bCall hb bA
  clear bA
  go_upto_region 6 with fail
  have bA:=bAl (bRefl w5) (.cells #[.int .i64 0,.int .i64 0] 37)
  replace C:=C.below (bA.mono (Nat.le_of_lt BC.lt))
  replace BC:=BC.below bA BC.lt
  replace V3:=V3.below bA V3.lt
  replace hb:=bCall hb bA
  clear bA
  generalize w5.alloc (.cells #[.int .i64 0,.int .i64 0] 37)=w6 at *
  have bA:=bAl (bRefl w6) (.cells #[.int .i64 1,.int .i64 1] 3)
  have q:=hP.of (a:=caT (cT 1)) (l:=[1,1]) (n:=2) (cl:=2) (hCT _ _ ((C.below ((bAl (bRefl w6) (.cells #[.int .i64 1,.int .i64 1] 3)).mono (Nat.le_of_lt BC.lt))).more (Nat.le_of_lt (BC.alloc (.cells #[.int .i64 1,.int .i64 1] 3)).lt))) rfl (Rd.new w6 (ints [1,1]) _ 1 2 _ rfl rfl) (by omega) (by omega) (by omega) (hG.below (bCall hb bA)) jt_twice
  have LC:=load_case (BC.alloc (.cells #[.int .i64 1,.int .i64 1] 3)) hs
  apply wp_region_lit
  iterate 3 go_step
  refine wpList_loadG (by rfl) (by rfl) (by rfl) LC ?_
  simp only [Act.put,List.setIfInBounds_toArray,List.set_cons_zero,List.set_cons_succ]
  clear LC
  go_wp2_with fail
  (with_reducible refine q.mono ?_)
  rintro e w7 ⟨rfl,bN⟩
  clear q
  replace bA:=bCall bA bN
  clear bN
  replace C:=C.below (bA.mono (Nat.le_of_lt BC.lt))
  replace BC:=BC.below bA BC.lt
  replace V3:=V3.below bA V3.lt
  replace hb:=bCall hb bA
  clear bA
  go_upto_region 7 with fail
  have bA:=bAl (bRefl w7) (.cells #[.int .i64 0,.int .i64 0] 37)
  replace C:=C.below (bA.mono (Nat.le_of_lt BC.lt))
  replace BC:=BC.below bA BC.lt
  replace V3:=V3.below bA V3.lt
  replace hb:=bCall hb bA
  clear bA
  generalize w7.alloc (.cells #[.int .i64 0,.int .i64 0] 37)=w8 at *
  have q:=hP.of (a:=⟨zeroC,[],0,0,0⟩) (l:=[]) (n:=0) (Al:=none) (cl:=0) (zero_ca w8) rfl Rd.nil_ (by omega) (by omega) (by omega) (hG.below hb) jt_zero
  go_wp2_with fail
  (with_reducible refine q.mono ?_)
  rintro e w9 ⟨rfl,bN⟩
  clear q
  have bA:=bN
  clear bN
  replace C:=C.below (bA.mono (Nat.le_of_lt BC.lt))
  replace BC:=BC.below bA BC.lt
  replace V3:=V3.below bA V3.lt
  replace hb:=bCall hb bA
  clear bA
  go_upto_region 8 with fail
  have bA:=bAl (bRefl w9) (.cells #[.int .i64 0,.int .i64 0] 37)
  replace C:=C.below (bA.mono (Nat.le_of_lt BC.lt))
  replace BC:=BC.below bA BC.lt
  replace V3:=V3.below bA V3.lt
  replace hb:=bCall hb bA
  clear bA
  generalize w9.alloc (.cells #[.int .i64 0,.int .i64 0] 37)=w10 at *
  have LC:=load_case BC hs
  apply wp_region_lit
  refine wpList_loadG (by rfl) (by rfl) (by rfl) LC ?_
  simp only [Act.put,List.setIfInBounds_toArray,List.set_cons_zero,List.set_cons_succ]
  clear LC
  iterate 3 go_step
  refine wpList_storeG (by rfl) (by rfl) (by rfl) (by rfl) (store_newW (by rw [hs];exact case_info') (by rw [hs];rfl) C.one) ?_
  simp only [Act.put]
  have BO:=Blk.new w10 33 csA _ rfl
  have oblt:cb<w10.heap.size:=BC.lt
  have bA:=bAl (bRefl w10) (.cells csA 33)
  replace C:=C.below (bA.mono (Nat.le_of_lt BC.lt))
  replace BC:=BC.below bA BC.lt
  replace V3:=V3.below bA V3.lt
  replace hb:=bCall hb bA
  clear bA
  generalize w10.alloc (.cells csA 33)=w11 at *
  generalize w10.heap.size=ob at *
  go_upto_region 9 with fail
  obtain ⟨v7,h7⟩:∃ v,csA[7]?=some v:=⟨_,Array.getElem?_eq_getElem (by omega)⟩
  have x7:w11.cell? ⟨ob,7,none⟩=some v7:=(BO.cell 7).trans h7
  have z7:=BO.frozen 7
  go_upto_region 10 with fail
  clear x7 z7
  replace V3:=V3.farT (i:=7) BO (by decide) (.int .i64 2)
  replace BO:=BO.set_ 7 (.int .i64 2)
  replace C:=C.below (Below.setCell (Below.refl cb w11) (p:=⟨ob,7,none⟩) (by show cb≤ob;omega) (.int .i64 2))
  replace BC:=BC.far (p:=⟨ob,7,none⟩) (by show cb≠ob;omega) (.int .i64 2)
  replace hb:=bSet hb (p:=⟨ob,7,none⟩) (by show W.heap.size≤ob;omega) (.int .i64 2)
  generalize w11.setCell ⟨ob,7,none⟩ (.int .i64 2)=w12 at *
  have hsO:(csA.setIfInBounds 7 (.int .i64 2)).size=15:=by rw [Array.size_setIfInBounds];exact hs
  have hCO:∀ w B,CaseAt w B csA [jobC g1 g2 1,jobC g3 g4 1] (cT 1)→CaAt w B (csA.setIfInBounds 7 (.int .i64 2)) [jobC g1 g2 1,jobC g3 g4 1] (caT (cT 2)):=fun w B C=>caT_at (c:=cT 2) (C.setX 2) (by rw [set_ne (by decide)];exact r0) (by rw [set_ne (by decide)];exact r1) (by rw [set_ne (by decide)];exact r2) (bareJobs_length [3,4] [lT]) rfl hJ (cT_mo 2)
  have bA:=bAl (bRefl w12) (.cells #[.int .i64 0,.int .i64 1] 3)
  have q:=hP.of (a:=caT (cT 2)) (l:=[0,1]) (n:=2) (cl:=2) (hCO _ _ ((C.below ((bAl (bRefl w12) (.cells #[.int .i64 0,.int .i64 1] 3)).mono (Nat.le_of_lt BC.lt))).more (Nat.le_of_lt (BC.alloc (.cells #[.int .i64 0,.int .i64 1] 3)).lt))) rfl (Rd.new w12 (ints [0,1]) _ 1 2 _ rfl rfl) (by omega) (by omega) (by omega) (hG.below (bCall hb bA)) jt_sender
  have LC:=load_case (BO.alloc (.cells #[.int .i64 0,.int .i64 1] 3)) hsO
  apply wp_region_lit
  iterate 3 go_step
  refine wpList_loadG (by rfl) (by rfl) (by rfl) LC ?_
  simp only [Act.put,List.setIfInBounds_toArray,List.set_cons_zero,List.set_cons_succ]
  clear LC
  go_wp2_with fail
  (with_reducible refine q.mono ?_)
  rintro e w13 ⟨rfl,bN⟩
  clear q
  replace bA:=bCall bA bN
  clear bN
  replace C:=C.below (bA.mono (Nat.le_of_lt BC.lt))
  replace BC:=BC.below bA BC.lt
  replace V3:=V3.below bA V3.lt
  replace BO:=BO.below bA BO.lt
  replace hb:=bCall hb bA
  clear bA
  go_upto_region 11 with fail
  have V12:=Blk.new w13 37 #[.int .i64 (-1),.int .i64 1] _ rfl
  have bA:=bAl (bRefl w13) (.cells #[.int .i64 (-1),.int .i64 1] 37)
  replace C:=C.below (bA.mono (Nat.le_of_lt BC.lt))
  replace BC:=BC.below bA BC.lt
  replace V3:=V3.below bA V3.lt
  replace BO:=BO.below bA BO.lt
  replace hb:=bCall hb bA
  clear bA
  generalize w13.alloc (.cells #[.int .i64 (-1),.int .i64 1] 37)=w14 at *
  generalize w13.heap.size=vV12 at *
  have LC:=load_case BC hs
  apply wp_region_lit
  refine wpList_loadG (by rfl) (by rfl) (by rfl) LC ?_
  simp only [Act.put,List.setIfInBounds_toArray,List.set_cons_zero,List.set_cons_succ]
  clear LC
  iterate 3 go_step
  refine wpList_storeG (by rfl) (by rfl) (by rfl) (by rfl) (store_newW (by rw [hs];exact case_info') (by rw [hs];rfl) C.one) ?_
  simp only [Act.put]
  have BZ:=Blk.new w14 33 csA _ rfl
  have zblt:cb<w14.heap.size:=BC.lt
  have bA:=bAl (bRefl w14) (.cells csA 33)
  replace C:=C.below (bA.mono (Nat.le_of_lt BC.lt))
  replace BC:=BC.below bA BC.lt
  replace V3:=V3.below bA V3.lt
  replace V12:=V12.below bA V12.lt
  replace hb:=bCall hb bA
  clear bA
  generalize w14.alloc (.cells csA 33)=w15 at *
  generalize w14.heap.size=zb at *
  go_upto_region 12 with fail
  obtain ⟨AJ,cj,k5,hR⟩:=C.jobs
  have nj:(cT 1).jobs.length=2:=bareJobs_length [3,4] [lT]
  rw [nj] at k5 hR
  have y5:w15.cell? ⟨cb,5,none⟩=some (.slice AJ 2 cj):=(BC.cell 5).trans k5
  have hlc:cb<w15.heap.size:=BC.lt
  have hlz:zb<w15.heap.size:=BZ.lt
  have hone:∀ u∈[jobC g1 g2 1,jobC g3 g4 1].flatMap Array.toList,u.oneCell'=true:=fun u hu=>by
    obtain ⟨x,hx,hu⟩:=List.mem_flatMap.1 hu
    obtain ⟨i,hi⟩:=List.getElem?_of_mem hx
    exact (C.job i x hi).2.1 u hu
  apply wp_region_lit
  iterate 9 go_step
  refine wpList_appendG (.tmp 58) (.tmp 60) 26 w15.heap.size 55 zJob 49 280 (.slice (some ⟨w15.heap.size,0,none⟩) 0 0) 0 [] AJ 2 cj cb ([jobC g1 g2 1,jobC g3 g4 1].flatMap Array.toList) rfl rfl Tryz.underlying26 job_info4 rfl (by omega) rfl (own_empty w15 _ _ _ (Nat.le_refl _)) rfl
    (hR.alloc (by omega) _) (fun e=>by obtain ⟨b',off,e2,_⟩:=hR.2 (by omega);rw [e] at e2;cases e2) hone (by unfold maxLen;omega) (by omega) (by simp) (fun v15 w16 ownA hgA=>?_)
  obtain ⟨g,cap,cur,rfl,hgb,BG,hnc,hcm,hcs,hct⟩:=own_some ownA (by omega)
  have bA:Below w15.heap.size w15 w16:=(bAl (bRefl w15) (.cells #[] 55)).trans (hgA.below (own_empty w15 55 49 w15.heap.size (Nat.le_refl _)) (by simp))
  replace BZ:=BZ.below bA BZ.lt
  replace BC:=BC.below bA BC.lt
  replace V3:=V3.below bA V3.lt
  replace V12:=V12.below bA V12.lt
  replace C:=C.below (bA.mono (by omega))
  replace hR:=hR.below (bA.mono (by omega))
  replace hb:=bCall hb bA
  clear bA ownA hgA y5 hone
  have x5:w16.cell? ⟨zb,5,none⟩=some (.slice AJ 2 cj):=(BZ.cell 5).trans k5
  have z5:=BZ.frozen 5
  go_upto_region 13 with fail
  clear x5 z5
  replace V3:=V3.farT (i:=5) BZ (by decide) (.slice (some ⟨g,0,none⟩) 2 cap)
  replace V12:=V12.farT (i:=5) BZ (by decide) (.slice (some ⟨g,0,none⟩) 2 cap)
  replace BG:=BG.farT (i:=5) BZ (by decide) (.slice (some ⟨g,0,none⟩) 2 cap)
  replace BC:=BC.far (p:=⟨zb,5,none⟩) (by show cb≠zb;omega) (.slice (some ⟨g,0,none⟩) 2 cap)
  replace BZ:=BZ.set_ 5 (.slice (some ⟨g,0,none⟩) 2 cap)
  replace C:=C.below (Below.setCell (Below.refl cb w16) (p:=⟨zb,5,none⟩) (by show cb≤zb;omega) (.slice (some ⟨g,0,none⟩) 2 cap))
  replace hR:=hR.below (Below.setCell (Below.refl cb w16) (p:=⟨zb,5,none⟩) (by show cb≤zb;omega) (.slice (some ⟨g,0,none⟩) 2 cap))
  replace hb:=bSet hb (p:=⟨zb,5,none⟩) (by show W.heap.size≤zb;omega) (.slice (some ⟨g,0,none⟩) 2 cap)
  generalize w16.setCell ⟨zb,5,none⟩ (.slice (some ⟨g,0,none⟩) 2 cap)=w17 at *
  obtain ⟨jb,off,rfl,hjb,hcj⟩:=hR.2 (by omega)
  have x49:w17.cell? ⟨jb,off+49,none⟩=some (.slice (some ⟨g3,0,none⟩) 1 1):=hcj 49 _ rfl
  have hX5:(csA.setIfInBounds 5 (.slice (some ⟨g,0,none⟩) 2 cap))[5]?=some (.slice (some ⟨g,0,none⟩) 2 cap):=set_eq (by rw [hs];omega)
  have KS:Hid (∀ w',Below w17.heap.size w17 w'→w'.cell? ⟨zb,5,none⟩=some (.slice (some ⟨g,0,none⟩) 2 cap)∧w'.cell? ⟨cb,5,none⟩=some (.slice (some ⟨jb,off,none⟩) 2 cj)∧w'.cell? ⟨jb,off+49,none⟩=some (.slice (some ⟨g3,0,none⟩) 1 1)):=Lib.hid (fun w' hw=>⟨((BZ.below hw BZ.lt).cell 5).trans hX5,((BC.below hw BC.lt).cell 5).trans k5,(hw.cell (p:=⟨jb,off+49,none⟩) (by show jb<_;have:=BC.lt;omega)).trans x49⟩)
  obtain ⟨v51,h51⟩:∃ v,cur[51]?=some v:=⟨_,Array.getElem?_eq_getElem (by omega)⟩
  refine wp_region_schB (f:=10) KS [(0,1),(1,2),(2,1),(3,2),(4,1),(5,1),(6,2),(7,1),(8,1),(9,1),(10,3)] ?_
  simp only [pickS,List.getElem?_cons_zero,List.getElem?_cons_succ]
  refine wpSched_t ?_
  refine wpSched_r ?_
  refine wpSched_t ?_
  refine wpSched_r ?_
  refine wpSched_t ?_
  refine wpSched_t ?_
  refine wpSched_r ?_
  refine wpSched_t ?_
  refine wpSched_t ?_
  refine wpSched_t ?_
  refine wpSched_last ?_
  first | simp only [List.map_nil] | simp only [List.map_cons,List.map_nil]
  clear KS x49 hcj
  replace BZ:Blk w17.drew zb 33 _:=BZ
  replace BC:Blk w17.drew cb 33 _:=BC
  replace BG:Blk w17.drew g 55 _:=BG
  replace V3:Blk w17.drew vV3 37 _:=V3
  replace V12:Blk w17.drew vV12 37 _:=V12
  replace C:=C.below (bDr (bRefl w17) |>.mono (Nat.le_of_lt BC.lt))
  replace hb:=bDr hb
  generalize w17.drew=wd at *
  have x51:wd.cell? ⟨g,51,none⟩=some v51:=(BG.cell 51).trans h51
  have z51:=BG.frozen 51
  go_wp2_with fail
  refine NoPanic.normal ?_
  go_upto_region 14 with fail
  clear x51 z51
  have hcg:cb≤g:=by omega
  replace V3:=V3.farT (i:=51) BG (by decide) (.slice (some ⟨g3,0,none⟩) 1 1)
  replace V12:=V12.farT (i:=51) BG (by decide) (.slice (some ⟨g3,0,none⟩) 1 1)
  replace BC:=BC.farT (i:=51) BG (by decide) (.slice (some ⟨g3,0,none⟩) 1 1)
  replace BZ:=BZ.farT (i:=51) BG (by decide) (.slice (some ⟨g3,0,none⟩) 1 1)
  replace BG:=BG.set_ 51 (.slice (some ⟨g3,0,none⟩) 1 1)
  replace C:=C.below (Below.setCell (Below.refl cb wd) (p:=⟨g,51,none⟩) hcg (.slice (some ⟨g3,0,none⟩) 1 1))
  replace hb:=bSet hb (p:=⟨g,51,none⟩) (by show W.heap.size≤g;omega) (.slice (some ⟨g3,0,none⟩) 1 1)
  generalize wd.setCell ⟨g,51,none⟩ (.slice (some ⟨g3,0,none⟩) 1 1)=w18 at *
  have J0:JobIn' _ cb (jobC g1 g2 1) (bareJob 3 [lT]):=C.job 0 _ rfl
  have J1:JobIn' _ cb (jobC g3 g4 1) ((cT 1).jobAt 1):=C.job 1 _ rfl
  have hct2:=two_take hct J0.1 2 (.slice (some ⟨g3,0,none⟩) 1 1)
  have hcc:cb≤w18.heap.size:=Nat.le_of_lt BC.lt
  have hR2:Rd w18 w18.heap.size 49 (some ⟨g,0,none⟩) 2 ([jobC g1 g2 1,(jobC g3 g4 1).setIfInBounds 2 (.slice (some ⟨g3,0,none⟩) 1 1)].flatMap Array.toList):=Rd.of_blk BG hct2 (by rw [←hct2,List.length_take,Array.length_toList,Array.size_setIfInBounds,hcs,Nat.min_eq_left];omega)
  have hbl:((cT 1).jobAt 1).bare.length=1:=by
    show (bareX 4 (bareX 3 [lT])).length=1
    unfold bareX;simp
  have J1':=(J1.more hcc).setIn (v := .slice (some ⟨g3,0,none⟩) 1 1) (l:=((cT 1).jobAt 1).bare) ((J1.more hcc).2.2.1.h0) (by omega)
  have CD0:CaseAt w18 w18.heap.size (csA.setIfInBounds 5 (.slice (some ⟨g,0,none⟩) 2 cap)) [jobC g1 g2 1,(jobC g3 g4 1).setIfInBounds 2 (.slice (some ⟨g3,0,none⟩) 1 1)] (dT { (cT 1).jobAt 1 with mi:=((cT 1).jobAt 1).bare }) :=
    (C.more hcc).setJobs (cj:=cap) (jobs':=[bareJob 3 [lT],{ (cT 1).jobAt 1 with mi:=((cT 1).jobAt 1).bare }]) hR2 rfl (fun k jc hk=>by
      match k,hk with
      | 0,hk =>
        obtain rfl:_=jc:=by simpa using hk
        exact J0.more hcc
      | 1,hk =>
        obtain rfl:_=jc:=by simpa using hk
        exact J1'
      | k+2,hk=>simp at hk)
  have CD:CaAt w18 w18.heap.size (csA.setIfInBounds 5 (.slice (some ⟨g,0,none⟩) 2 cap)) [jobC g1 g2 1,(jobC g3 g4 1).setIfInBounds 2 (.slice (some ⟨g3,0,none⟩) 1 1)] (caT (dT { (cT 1).jobAt 1 with mi:=((cT 1).jobAt 1).bare })) :=
    caT_at CD0 (by rw [set_ne (by decide)];exact r0) (by rw [set_ne (by decide)];exact r1) (by rw [set_ne (by decide)];exact r2) rfl rfl (fun k jc hk i v hv=>by
      match k,hk with
      | 0,hk =>
        obtain rfl:_=jc:=by simpa using hk
        exact jobC_hand _ _ _ i v hv
      | 1,hk =>
        obtain rfl:_=jc:=by simpa using hk
        rw [set_ne (by omega)]
        exact jobC_hand _ _ _ i v hv
      | k+2,hk=>simp at hk) (fun k=>by
      match k with
      | 0=>rfl
      | 1=>rfl
      | k+2=>rfl)
  have hsZ:(csA.setIfInBounds 5 (.slice (some ⟨g,0,none⟩) 2 cap)).size=15:=by rw [Array.size_setIfInBounds];exact hs
  have hje:({ (cT 1).jobAt 1 with mi:=((cT 1).jobAt 1).bare } : Jb).emptyB=false:=by
    unfold Jb.emptyB
    rw [decide_eq_false]
    show ¬(((cT 1).jobAt 1).bare.length+_+_=0)
    omega
  have hjs:=jt_silent hje
  generalize ({ (cT 1).jobAt 1 with mi:=((cT 1).jobAt 1).bare } : Jb)=jz at *
  clear J0 J1 J1' hct2 hR2 BG hbl hje CD0
  have bA:=bAl (bRefl w18) (.cells #[.int .i64 0,.int .i64 1] 3)
  have q:=hP.of (a:=caT (dT jz)) (l:=[0,1]) (n:=2) (cl:=2) ((CD.below (bAl (bRefl w18) (.cells #[.int .i64 0,.int .i64 1] 3))).more (by simp)) rfl (Rd.new w18 (ints [0,1]) _ 1 2 _ rfl rfl) (by omega) (by omega) (by omega) (hG.below (bCall hb bA)) hjs
  have LC:=load_case (BZ.alloc (.cells #[.int .i64 0,.int .i64 1] 3)) hsZ
  apply wp_region_lit
  iterate 3 go_step
  refine wpList_loadG (by rfl) (by rfl) (by rfl) LC ?_
  simp only [Act.put,List.setIfInBounds_toArray,List.set_cons_zero,List.set_cons_succ]
  clear LC
  go_wp2_with fail
  (with_reducible refine q.mono ?_)
  rintro e w19 ⟨rfl,bN⟩
  clear q
  replace bA:=bCall bA bN
  clear bN
  replace C:=C.below (bA.mono (Nat.le_of_lt BC.lt))
  replace BC:=BC.below bA BC.lt
  replace V3:=V3.below bA V3.lt
  replace V12:=V12.below bA V12.lt
  replace BZ:=BZ.below bA BZ.lt
  replace hb:=bCall hb bA
  clear bA
  go_upto_region 15 with fail
  have V15:=Blk.new w19 37 #[.int .i64 1,.int .i64 5] _ rfl
  have bA:=bAl (bRefl w19) (.cells #[.int .i64 1,.int .i64 5] 37)
  replace C:=C.below (bA.mono (Nat.le_of_lt BC.lt))
  replace BC:=BC.below bA BC.lt
  replace V3:=V3.below bA V3.lt
  replace V12:=V12.below bA V12.lt
  replace BZ:=BZ.below bA BZ.lt
  replace hb:=bCall hb bA
  clear bA
  generalize w19.alloc (.cells #[.int .i64 1,.int .i64 5] 37)=w20 at *
  generalize w19.heap.size=vV15 at *
  obtain ⟨a0,a1,_⟩:=V3.two_
  obtain ⟨c0,c1,_⟩:=V12.two_
  obtain ⟨d0,d1,_⟩:=V15.two_
  go_wp2_with fail
  go_ret
  exact ⟨by simp,hb⟩
theorem why_range (c:Cs) (i k:Nat):c.whyAt i k=0∨(3≤c.whyAt i k∧c.whyAt i k≤5):=by
  unfold Cs.whyAt
  split
  · omega
  · split
    · split <;> omega
    · omega
theorem way_range (c:Cs):∀ {f i k:Nat},(c.way f i k).2≠0→(i:Int)≤(c.way f i k).1∧(c.way f i k).1<(i:Int)+(f:Int)∧3≤(c.way f i k).2∧(c.way f i k).2≤5
  | 0,_,_,h=>absurd rfl h
  | f+1,i,k,h=>by
    have e:c.way (f+1) i k=if (c.jobAt i).emptyB=true then c.way f (i+1) k else if c.whyAt i k=0 then c.way f (i+1) (c.stepAt i).right.at_.toNat else ((i:Int),c.whyAt i k):=rfl
    rw [e] at h ⊢
    by_cases h1:(c.jobAt i).emptyB=true
    · rw [if_pos h1] at h ⊢
      have:=way_range c h
      omega
    · rw [if_neg h1] at h ⊢
      by_cases h2:c.whyAt i k=0
      · rw [if_pos h2] at h ⊢
        have:=way_range c h
        omega
      · rw [if_neg h2]
        have:=why_range c i k
        show (i:Int)≤(i:Int)∧(i:Int)<_∧3≤c.whyAt i k∧c.whyAt i k≤5
        omega
theorem check_range {c:Cs} (h:c.check.2.2=0):c.check.2.1=0∨c.check.2.1=1∨(0≤c.check.1∧c.check.1<c.keys.length∧3≤c.check.2.1∧c.check.2.1≤5):=by
  obtain ⟨h1,h2,h3⟩:=check_ok h
  rw [check_of h1 h2 h3]
  split
  · by_cases hw : (c.way c.keys.length 0 c.place.toNat).2 = 0
    · exact .inl hw
    · have:=way_range c hw
      refine .inr (.inr ?_)
      show 0≤(c.way c.keys.length 0 c.place.toNat).1∧(c.way c.keys.length 0 c.place.toNat).1<_∧3≤(c.way c.keys.length 0 c.place.toNat).2∧(c.way c.keys.length 0 c.place.toNat).2≤5
      omega
  · exact .inr (.inl rfl)
theorem judge_zero {a:Ca} {l:List Int} {x y:Int} (h:a.judge l=(x,y,0)):lineB l=true∧l.length=a.c.keys.length∧a.c.check.2.2=0:=by
  by_cases h1:lineB l=true∧l.length=a.c.keys.length
  case neg=>rw [judge_bad h1] at h;simp at h
  by_cases he:a.c.check.2.2=0
  · exact ⟨h1.1,h1.2,he⟩
  · rw [judge_err h1.1 h1.2 he] at h
    simp at h
    exact absurd h.2.2 he
def Ca.okTo (a:Ca) (l:List Int) (i:Nat):Prop:=∀ j,j<i→a.wrong l j=false
theorem judge_none {a:Ca} {l:List Int} {x y ck why:Int} (hR:a.judge l=(x,y,0)) (hC:a.c.check=(ck,why,0)) (hw:why≠1) {i:Nat} (hi:a.lim l≤i) (hb:a.okTo l i):y≠2:=by
  obtain ⟨h1,h2,h3⟩:=judge_zero hR
  have hr:=check_range h3
  rw [judge_miss h1 h2 h3 (by rw [hC];exact hw) (fun j hj=>hb j (by omega))] at hR
  split at hR
  · simp at hR;omega
  · simp at hR;omega
theorem judge_some {a:Ca} {l:List Int} {x y ck why:Int} (hR:a.judge l=(x,y,0)) (hC:a.c.check=(ck,why,0)) (hw:why≠1) {i:Nat} (hi:i<a.lim l) (hb:a.okTo l i) (hr:a.wrong l i=true):x=i∧y=2:=by
  obtain ⟨h1,h2,h3⟩:=judge_zero hR
  rw [judge_hit h1 h2 h3 (by rw [hC];exact hw) hi hr hb] at hR
  simp at hR
  omega
theorem judge_sent {a:Ca} {l:List Int} {x y ck:Int} (hR:a.judge l=(x,y,0)) (hC:a.c.check=(ck,1,0)):x = -1∧y=1:=by
  obtain ⟨h1,h2,h3⟩:=judge_zero hR
  rw [judge_send h1 h2 h3 (by rw [hC])] at hR
  simp at hR
  omega
theorem lim_of {a:Ca} {l:List Int} {ck why e:Int} (hC:a.c.check=(ck,why,e)):a.lim l=if why=0 then l.length else ck.toNat:=by
  unfold Ca.lim;rw [hC]
theorem right_parts (a:Ca) (l:List Int) (k:Nat):a.right l k=(((a.handAt k).signed (a.c.keyAt k)&&(decide ((a.handAt k).line=a.line∧(a.handAt k).at_=a.at_∧(a.handAt k).arrive=a.arrive)&&(((a.handAt k).leg==(k:Int))&&(((a.handAt k).from_==offAt l k)&&(((a.handAt k).many==((a.c.jobAt k).mo.length:Int))&&decide ((a.handAt k).root=rootL (a.c.jobAt k).mo))))))&&((a.handAt k).to_==nextOff l k)):=by
  unfold Ca.right
  have e:∀ x y:Int,(x==y)=decide (x=y):=fun _ _=>rfl
  rw [e,e,e,e]
  generalize decide ((a.handAt k).line=a.line∧(a.handAt k).at_=a.at_∧(a.handAt k).arrive=a.arrive)=p1
  generalize decide ((a.handAt k).leg=(k:Int))=p2
  generalize decide ((a.handAt k).from_=offAt l k)=p3
  generalize decide ((a.handAt k).many=((a.c.jobAt k).mo.length:Int))=p4
  generalize decide ((a.handAt k).root=rootL (a.c.jobAt k).mo)=p5
  generalize decide ((a.handAt k).to_=nextOff l k)=p6
  generalize (a.handAt k).signed (a.c.keyAt k)=p7
  cases p1 <;> cases p2 <;> cases p3 <;> cases p4 <;> cases p5 <;> cases p6 <;> cases p7 <;> rfl
theorem ref_time48 (n:Int) (W:World):Calls Tryz.prog 84 #[.int .i64 n] W (Same (.bool (tmB n)) W):=by
  obtain ⟨v,hv⟩:∃ v,Hid (v=tmB n):=⟨_,Lib.hid rfl⟩
  rw [←hv.out]
  by_cases h1:0≤n
  · by_cases h2 : n < 2097152
    · have e:Hid (v=true):=Lib.hid (by rw [hv.out];unfold tmB;rw [decide_eq_true h1,decide_eq_true h2];rfl)
      go_enter Tryz.func84,Tryz.ntmps84
      go_wp2_with fail
      go_ret
      exact ⟨ret_bool (by rw [e.out]),rfl⟩
    · have e:Hid (v=false):=Lib.hid (by rw [hv.out];unfold tmB;rw [decide_eq_false h2,Bool.and_false])
      go_enter Tryz.func84,Tryz.ntmps84
      go_wp2_with fail
      go_ret
      exact ⟨ret_bool (by rw [e.out]),rfl⟩
  · have e:Hid (v=false):=Lib.hid (by rw [hv.out];unfold tmB;rw [decide_eq_false h1,Bool.false_and])
    go_enter Tryz.func84,Tryz.ntmps84
    go_wp2_with fail
    go_ret
    exact ⟨ret_bool (by rw [e.out]),rfl⟩
def Hd.runB (h:Hd):Bool:=decide (0≤h.line)&&(decide (h.line<64)&&(tmB h.at_&&tmB h.arrive))
def Hd.offB (h:Hd):Bool:=decide (0≤h.from_)&&(decide (h.from_<24)&&(decide (-1≤h.to_)&&(decide (h.to_<24)&&decide (h.from_≠h.to_))))
def Hd.endB (h:Hd):Bool:=decide (0≤h.leg)&&(decide (h.leg≤8)&&(decide (0≤h.many)&&(decide (h.many≤64)&&tmB h.time)))
theorem Hd.formed_eq (h:Hd):h.formed=(h.runB&&(h.offB&&h.endB)):=by
  unfold Hd.formed Hd.runB Hd.offB Hd.endB
  simp only [Bool.decide_and]
  cases tmB h.at_ <;> cases tmB h.arrive <;> cases tmB h.time <;> simp [Bool.and_assoc,Bool.and_comm,Bool.and_left_comm]
theorem ref_formed48 (h:Hd) (ho:h.ok) (W:World):Calls Tryz.prog 40 #[.agg h.cl.toArray] W (Ret (.bool h.formed) W):=by
  obtain ⟨cs,hcs⟩:∃ cs,h.cl.toArray=cs:=⟨_,rfl⟩
  rw [hcs,Hd.formed_eq]
  have BH:=Blk.new W 47 cs _ rfl
  have hb:=bAl (bRefl W) (.cells cs 47)
  obtain ⟨c0,c1,c2,c3,c4,c5,c6,c39,c40,c41⟩:=HdAt.of BH hcs.symm ho
  have q1:=Lib.hid (fun w=>ref_time48 h.at_ w)
  have q2:=Lib.hid (fun w=>ref_time48 h.arrive w)
  have q3:=Lib.hid (fun w=>ref_time48 h.time w)
  obtain ⟨R,hR⟩:∃ R,Hid (R=h.runB):=⟨_,Lib.hid rfl⟩
  obtain ⟨O,hO⟩:∃ O,Hid (O=h.offB):=⟨_,Lib.hid rfl⟩
  obtain ⟨E,hE⟩:∃ E,Hid (E=h.endB):=⟨_,Lib.hid rfl⟩
  rw [←hR.out,←hO.out,←hE.out]
  go_enter Tryz.func40,Tryz.ntmps40
  go_upto_region 1 with fail
  generalize W.alloc (.cells cs 47)=w1 at *
  go_cut [3] (fun s3 wc=>s3 = .bool R∧wc=w1)
  case first =>
    by_cases k0:0≤h.line
    case neg =>
      have e:Hid (R=false):=Lib.hid (by rw [hR.out];unfold Hd.runB;simp [k0])
      clear hR
      go_wp2_with (first | (go_at_call 84;(first | (with_reducible refine (q1.out _).mono ?_) | (with_reducible refine (q2.out _).mono ?_));rintro e w3 ⟨rfl,rfl⟩) | fail)
      go_meet
      exact ⟨by rw [e.out];try simpa using k4,rfl⟩
    by_cases k1:h.line<64
    case neg =>
      have e:Hid (R=false):=Lib.hid (by rw [hR.out];unfold Hd.runB;simp [k0,k1])
      clear hR
      go_wp2_with (first | (go_at_call 84;(first | (with_reducible refine (q1.out _).mono ?_) | (with_reducible refine (q2.out _).mono ?_));rintro e w3 ⟨rfl,rfl⟩) | fail)
      go_meet
      exact ⟨by rw [e.out];try simpa using k4,rfl⟩
    cases k2:tmB h.at_
    case false =>
      rw [k2] at q1
      have e:Hid (R=false):=Lib.hid (by rw [hR.out];unfold Hd.runB;simp [k0,k1,k2])
      clear hR
      go_wp2_with (first | (go_at_call 84;(first | (with_reducible refine (q1.out _).mono ?_) | (with_reducible refine (q2.out _).mono ?_));rintro e w3 ⟨rfl,rfl⟩) | fail)
      go_meet
      exact ⟨by rw [e.out];try simpa using k4,rfl⟩
    rw [k2] at q1
    cases k3:tmB h.arrive
    case false =>
      rw [k3] at q2
      have e:Hid (R=false):=Lib.hid (by rw [hR.out];unfold Hd.runB;simp [k0,k1,k2,k3])
      clear hR
      go_wp2_with (first | (go_at_call 84;(first | (with_reducible refine (q1.out _).mono ?_) | (with_reducible refine (q2.out _).mono ?_));rintro e w3 ⟨rfl,rfl⟩) | fail)
      go_meet
      exact ⟨by rw [e.out];try simpa using k4,rfl⟩
    rw [k3] at q2
    have e:Hid (R=true):=Lib.hid (by rw [hR.out];unfold Hd.runB;simp [k0,k1,k2,k3])
    clear hR
    go_wp2_with (first | (go_at_call 84;(first | (with_reducible refine (q1.out _).mono ?_) | (with_reducible refine (q2.out _).mono ?_));rintro e w3 ⟨rfl,rfl⟩) | fail)
    go_meet
    exact ⟨by rw [e.out];try simpa using k4,rfl⟩
  case rest =>
    obtain ⟨rfl,rfl⟩:=hcut
    clear q1 q2
    go_upto_region 2 with fail
    go_cut [4] (fun s4 wd=>s4 = .bool O∧wd=wc)
    case first =>
      by_cases k0:0≤h.from_
      case neg =>
        have e:Hid (O=false):=Lib.hid (by rw [hO.out];unfold Hd.offB;simp [k0])
        clear hO
        go_wp2_with fail
        go_meet
        exact ⟨by rw [e.out];try simpa using k4,rfl⟩
      by_cases k1:h.from_<24
      case neg =>
        have e:Hid (O=false):=Lib.hid (by rw [hO.out];unfold Hd.offB;simp [k0,k1])
        clear hO
        go_wp2_with fail
        go_meet
        exact ⟨by rw [e.out];try simpa using k4,rfl⟩
      by_cases k2:-1≤h.to_
      case neg =>
        have e:Hid (O=false):=Lib.hid (by rw [hO.out];unfold Hd.offB;simp [k0,k1,k2])
        clear hO
        go_wp2_with fail
        go_meet
        exact ⟨by rw [e.out];try simpa using k4,rfl⟩
      by_cases k3:h.to_<24
      case neg =>
        have e:Hid (O=false):=Lib.hid (by rw [hO.out];unfold Hd.offB;simp [k0,k1,k2,k3])
        clear hO
        go_wp2_with fail
        go_meet
        exact ⟨by rw [e.out];try simpa using k4,rfl⟩
      by_cases k4:h.from_≠h.to_
      case neg =>
        have e:Hid (O=false):=Lib.hid (by rw [hO.out];unfold Hd.offB;simp [k0,k1,k2,k3,k4])
        clear hO
        go_wp2_with fail
        go_meet
        exact ⟨by rw [e.out];try simpa using k4,rfl⟩
      have e:Hid (O=true):=Lib.hid (by rw [hO.out];unfold Hd.offB;simp [k0,k1,k2,k3,k4])
      clear hO
      go_wp2_with fail
      go_meet
      exact ⟨by rw [e.out];try simpa using k4,rfl⟩
    case rest =>
      obtain ⟨rfl,rfl⟩:=hcut
      cases R
      case false =>
        go_wp2_with fail
        go_ret
        exact ⟨ret_bool (by simp),hb⟩
      cases O
      case false =>
        go_wp2_with fail
        go_ret
        exact ⟨ret_bool (by simp),hb⟩
      clear hR hO
      by_cases k0:0≤h.leg
      case neg =>
        have e:Hid (E=false):=Lib.hid (by rw [hE.out];unfold Hd.endB;simp [k0])
        clear hE
        go_wp2_with (first | (go_at_call 84;(first | (with_reducible refine (q3.out _).mono ?_));rintro e w3 ⟨rfl,rfl⟩) | fail)
        go_ret
        exact ⟨ret_bool (by rw [e.out];try rfl),hb⟩
      by_cases k1:h.leg≤8
      case neg =>
        have e:Hid (E=false):=Lib.hid (by rw [hE.out];unfold Hd.endB;simp [k0,k1])
        clear hE
        go_wp2_with (first | (go_at_call 84;(first | (with_reducible refine (q3.out _).mono ?_));rintro e w3 ⟨rfl,rfl⟩) | fail)
        go_ret
        exact ⟨ret_bool (by rw [e.out];try rfl),hb⟩
      by_cases k2:0≤h.many
      case neg =>
        have e:Hid (E=false):=Lib.hid (by rw [hE.out];unfold Hd.endB;simp [k0,k1,k2])
        clear hE
        go_wp2_with (first | (go_at_call 84;(first | (with_reducible refine (q3.out _).mono ?_));rintro e w3 ⟨rfl,rfl⟩) | fail)
        go_ret
        exact ⟨ret_bool (by rw [e.out];try rfl),hb⟩
      by_cases k3:h.many≤64
      case neg =>
        have e:Hid (E=false):=Lib.hid (by rw [hE.out];unfold Hd.endB;simp [k0,k1,k2,k3])
        clear hE
        go_wp2_with (first | (go_at_call 84;(first | (with_reducible refine (q3.out _).mono ?_));rintro e w3 ⟨rfl,rfl⟩) | fail)
        go_ret
        exact ⟨ret_bool (by rw [e.out];try rfl),hb⟩
      cases k4:tmB h.time
      case false =>
        rw [k4] at q3
        have e:Hid (E=false):=Lib.hid (by rw [hE.out];unfold Hd.endB;simp [k0,k1,k2,k3,k4])
        clear hE
        go_wp2_with (first | (go_at_call 84;(first | (with_reducible refine (q3.out _).mono ?_));rintro e w3 ⟨rfl,rfl⟩) | fail)
        go_ret
        exact ⟨ret_bool (by rw [e.out];try rfl),hb⟩
      rw [k4] at q3
      have e:Hid (E=true):=Lib.hid (by rw [hE.out];unfold Hd.endB;simp [k0,k1,k2,k3,k4])
      clear hE
      go_wp2_with (first | (go_at_call 84;(first | (with_reducible refine (q3.out _).mono ?_));rintro e w3 ⟨rfl,rfl⟩) | fail)
      go_ret
      exact ⟨ret_bool (by rw [e.out];try rfl),hb⟩
theorem ref_letter (x:Ltr) (hx:∀ y∈x.its,y.ok) (W:World):Calls Tryz.prog 94 #[x.agg] W (fun r w'=>∃ v,r = .returned v∧Below W.heap.size W w'∧w'.ownsRow W.heap.size 5 1 v x.txt.length (byts x.txt)):=by
  have BX:=Blk.new W 70 #[.int .i64 x.a0,.int .i64 x.b0,.int .i64 x.a1,.int .i64 x.b1,.int .i64 x.a2,.int .i64 x.b2] _ rfl
  have hb:=bAl (bRefl W) (.cells #[.int .i64 x.a0,.int .i64 x.b0,.int .i64 x.a1,.int .i64 x.b1,.int .i64 x.a2,.int .i64 x.b2] 70)
  unfold Ltr.agg
  go_enter Tryz.func94,Tryz.ntmps94
  go_upto_region 1 with fail
  generalize W.alloc (.cells #[.int .i64 x.a0,.int .i64 x.b0,.int .i64 x.a1,.int .i64 x.b1,.int .i64 x.a2,.int .i64 x.b2] 70)=w1 at *
  obtain ⟨c0,c1,c2,c3,c4,c5⟩:=BX.six
  have q:=ref_ints (some ⟨w1.heap.size,0,none⟩) 6 6 [x.a0,x.b0,x.a1,x.b1,x.a2,x.b2] (w1.alloc (.cells #[.int .i64 x.a0,.int .i64 x.b0,.int .i64 x.a1,.int .i64 x.b1,.int .i64 x.a2,.int .i64 x.b2] 3)) (Rd.of_blk (Blk.new w1 3 _ _ rfl) rfl rfl) (by omega)
  go_wp2_with fail
  (with_reducible refine q.mono ?_)
  rintro e w2 ⟨A2,c2',rfl,b2,hR⟩
  have hb2:=bCall (bAl hb (.cells #[.int .i64 x.a0,.int .i64 x.b0,.int .i64 x.a1,.int .i64 x.b1,.int .i64 x.a2,.int .i64 x.b2] 3)) b2
  have q2:=ref_encodeO A2 6 c2' x.its w2 hR hx (by omega)
  unfold listV at q2 ⊢
  clear q
  have ht:Hid (x.txt=encN x.its):=Lib.hid rfl
  go_wp2_with fail
  (with_reducible refine q2.mono ?_)
  rintro e w3 ⟨v3,rfl,b3,hS⟩
  have hb3:=bCall hb2 b3
  clear q2
  go_wp2_with fail
  go_ret
  exact ⟨_,rfl,hb3,by rw [ht.out];exact own_base hS hb2.size⟩
end Go.Proofs.YtgkpomdegomgiaaGreatDoor

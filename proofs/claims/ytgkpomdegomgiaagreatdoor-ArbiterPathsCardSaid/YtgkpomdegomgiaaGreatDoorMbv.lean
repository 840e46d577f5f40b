/- frankinglaw56.sane, walked. -/
import Derived.Test.YtgkpomdegomgiaaGreatDoorMbt
import Derived.Test.YtgkpomdegomgiaaGreatDoorMbu
import Derived.Test.YtgkpomdegomgiaaGreatDoorMbq
import Derived.Test.YtgkpomdegomgiaaGreatDoorMbg
import Derived.Test.YtgkpomdegomgiaaGreatDoorMbh
import Derived.Test.YtgkpomdegomgiaaGreatDoorMbo
import Derived.Test.YtgkpomdegomgiaaGreatDoorMbm
import Derived.Test.YtgkpomdegomgiaaGreatDoorMaz
import Derived.Test.YtgkpomdegomgiaaGreatDoorMba
set_option maxRecDepth 1000000
set_option maxHeartbeats 16000000
namespace Go.Proofs.YtgkpomdegomgiaaGreatDoor
open Go.RowKit
def JudgeOk:Prop:=∀ (a:Ca) (l:List Int) (Al:Option Addr) (cl:Nat) (cs:Array Value) (jcs:List (Array Value)) (W:World),CaAt W W.heap.size cs jcs a→Rd W W.heap.size 1 Al l.length (ints l)→l.length≤1000→l.length≤cl→cl≤9223372036854775807→ShaG W →
    Calls Tryz.prog 9 #[.slice Al l.length cl,.agg cs] W (Ret (judV (a.judge l)) W)
theorem judge_ok:JudgeOk:=fun a l Al cl cs jcs W h hl h1 h2 h3 hG=>ar_judge a l Al cl cs jcs W h hl h1 h2 h3 hG
theorem JudgeOk.of (hP:JudgeOk) {a:Ca} {l:List Int} {Al:Option Addr} {cl n:Nat} {cs:Array Value} {jcs:List (Array Value)} {W:World} (h:CaAt W W.heap.size cs jcs a) (hn:l.length=n) (hl:Rd W W.heap.size 1 Al n (ints l)) (h1:n≤1000) (h2:n≤cl) (h3:cl≤9223372036854775807) (hG:ShaG W) {x y e:Int} (hj:a.judge l=(x,y,e)) :
    Calls Tryz.prog 9 #[.slice Al n cl,.agg cs] W (Ret (.tuple #[.agg #[.int .i64 x,.int .i64 y],.int .i64 e]) W):=by
  subst hn
  have:=hP a l Al cl cs jcs W h hl h1 h2 h3 hG
  rw [hj] at this
  exact this
theorem caT_at {w:World} {B:Nat} {cs:Array Value} {jcs:List (Array Value)} {c:Cs} (C:CaseAt w B cs jcs c) (r0:cs[0]?=some (.int .i64 0)) (r1:cs[1]?=some (.int .i64 0)) (r2:cs[2]?=some (.int .i64 0)) (hl:c.jobs.length=2) (hk:c.keys=[3,4].map pubV)
    (hj:∀ (k:Nat) (jc:Array Value),jcs[k]?=some jc→∀ (i:Nat) (v:Value),zeroH.cl[i]?=some v→jc[7+i]?=some v) (hm:∀ k,(c.jobAt k).mo=[]):CaAt w B cs jcs (caT c):=by
  refine ⟨C,r0,r1,r2,hl.symm,fun k jc h h1 h2=>?_,fun h hh=>?_,fun x hx=>?_,fun k x hx=>?_,fun k=>?_⟩
  · have:h=zeroH:=by
      have:=List.mem_of_getElem? h2
      simp only [caT,List.mem_cons,List.not_mem_nil,or_false,or_self] at this
      exact this
    subst this
    exact hj k jc h1
  · simp only [caT,List.mem_cons,List.not_mem_nil,or_false,or_self] at hh
    subst hh
    exact zeroH_ok
  · have hx':x∈c.keys:=hx
    rw [hk] at hx'
    simp only [List.map,pub3,pub4,List.mem_cons,List.not_mem_nil,or_false] at hx'
    unfold inI
    rcases hx' with rfl | rfl <;> omega
  · rw [show ((caT c).c.jobAt k).mo=[] from hm k] at hx
    cases hx
  · rw [show ((caT c).c.jobAt k).mo=[] from hm k]
    show 0≤1000
    omega
theorem zero_ca (w:World):CaAt w w.heap.size #[.int .i64 0,.int .i64 0,.int .i64 0,.slice none 0 0,.slice none 0 0,.slice none 0 0,.int .i64 0,.int .i64 0,.int .i64 0,.int .i64 0,.int .i64 0,.int .i64 0,.int .i64 0,.slice none 0 0,.int .i64 0] [] ⟨zeroC,[],0,0,0⟩ :=
  ⟨zero_case w,rfl,rfl,rfl,rfl,fun k jc h h1=>(by simp at h1),fun h hh=>(by cases hh),fun x hx=>(by cases hx),fun k x hx=>(by
    have:((⟨zeroC,[],0,0,0⟩:Ca).c.jobAt k).mo=[]:=rfl
    rw [this] at hx;cases hx),fun k=>(by show 0≤1000;omega)⟩
theorem cT_mo (x:Int) (k:Nat):((cT x).jobAt k).mo=[]:=by
  match k with
  | 0=>rfl
  | 1=>rfl
  | k+2=>rfl
theorem eqVer (a b c d:Int) (w:World):(binOp .eql 37 (.agg #[.int .i64 a,.int .i64 b]) (.agg #[.int .i64 c,.int .i64 d])).run Tryz.prog w = .ok (.bool (decide (a=c∧b=d))) w:=by
  have hS:Tryz.prog.underlying 37=some (.struct (Tryz.prog.fieldsOf 37)):=by kernel_rfl
  have hp:Tryz.prog.stoodInHeld 37=false:=by kernel_rfl
  have u3:=Tryz.underlying3
  have a3:=Tryz.isAgg3
  have z3:=Tryz.sizeOf3
  have h:(Op.equalIn 10000 37 (.agg #[.int .i64 a,.int .i64 b]) (.agg #[.int .i64 c,.int .i64 d])).run Tryz.prog w = .ok (decide (a=c∧b=d)) w:=by
    rw [show (10000:Nat)=9998+1+1 from rfl,run_equalIn_agg w (9998+1) 37 _ _ hS hp]
    simp only [Program.fieldsOf,Tryz.underlying37]
    go_simp
    by_cases h1:a=c <;> by_cases h2:b=d <;> simp [h1,h2]
  rw [run_eql_struct,h];rfl
theorem CaseAt.setX {w:World} {B:Nat} {cs:Array Value} {jcs:List (Array Value)} {c:Cs} (h:CaseAt w B cs jcs c) (x:Int):CaseAt w B (cs.setIfInBounds 7 (.int .i64 x)) jcs { c with words:=⟨x,c.words.y,c.words.z⟩ }:=by
  have hs:=h.size
  refine ⟨by simp only [Array.size_setIfInBounds,hs],one_set h.one 7 rfl,?_,?_,?_,h.jlen,h.job,?_,by rw [set_eq (by omega)],?_,?_,?_,?_,?_,?_,h.stepOk⟩
  all_goals rw [set_ne (by decide)]
  · exact h.first
  · exact h.keys
  · exact h.jobs
  · exact h.place
  · exact h.w1
  · exact h.w2
  · exact h.r0
  · exact h.r1
  · exact h.r2
  · exact h.steps
theorem JobIn'.setIn {w:World} {B:Nat} {jc:Array Value} {j:Jb} (h:JobIn' w B jc j) {v:Value} {l:List Ltr} (hv:LsAt w B (some v) l) (hl:l.length≤1000):JobIn' w B (jc.setIfInBounds 2 v) { j with mi:=l }:=by
  obtain ⟨a1,a2,a3,a4⟩:=h
  have h1:v.oneCell'=true:=by obtain ⟨A,cc,e,-⟩:=hv;injection e with e;subst e;rfl
  refine ⟨by rw [Array.size_setIfInBounds,a1],one_set a2 2 h1,⟨?_,?_,?_,?_,?_,?_,?_⟩,a4.1,by show l.length≤_;omega,a4.2.2.1,a4.2.2.2⟩
  · show LsAt w B ((jc.setIfInBounds 2 v)[0]?) _;rw [set_ne (by decide)];exact a3.h0
  · show LsAt w B ((jc.setIfInBounds 2 v)[1]?) _;rw [set_ne (by decide)];exact a3.h1
  · show LsAt w B ((jc.setIfInBounds 2 v)[2]?) _;rw [set_eq (by omega)];exact hv
  · show LsAt w B ((jc.setIfInBounds 2 v)[3]?) _;rw [set_ne (by decide)];exact a3.h3
  · show LsAt w B ((jc.setIfInBounds 2 v)[4]?) _;rw [set_ne (by decide)];exact a3.h4
  · show DsAt w B ((jc.setIfInBounds 2 v)[5]?) _;rw [set_ne (by decide)];exact a3.h5
  · show DsAt w B ((jc.setIfInBounds 2 v)[6]?) _;rw [set_ne (by decide)];exact a3.h6
theorem aw_sane (hP:JudgeOk) (W:World) (hG:ShaG W):Calls Tryz.prog 7 #[] W (Ret (.bool true) W):=by
  have hq:=fun (a b c d:Int) (w:World)=>eqVer a b c d w
  go_enter Tryz.func7,Tryz.ntmps7
  go_wp2_with fail
  (with_reducible refine (aw_bare W hG).mono ?_)
  rintro e w1 ⟨hb,csA,jcs,rfl,C,r0,r1,r2,g1,g2,g3,g4,rfl⟩
  dsimp only
  (refine ‹∀ (a:Act) (w:World),wpList _ _ _ _ a w→_› _ _ ?_)
  iterate 12 go_step
  have hs:=C.size
  refine wpList_storeG (by rfl) (by rfl) (by rfl) (by rfl) (store_newW (by rw [hs];exact case_info') (by rw [hs];rfl) C.one) ?_
  simp only [Act.put]
  have BC:=Blk.new w1 33 csA _ rfl
  have b12:=bAl (bRefl w1) (.cells csA 33)
  replace C:=C.below b12
  have hcb:W.heap.size≤w1.heap.size:=hb.size
  replace hb:=bCall hb b12
  clear b12
  generalize w1.alloc (.cells csA 33)=w2 at *
  generalize w1.heap.size=cb at *
  have hJ:∀ (k:Nat) (jc:Array Value),([jobC g1 g2 1,jobC g3 g4 1]:List (Array Value))[k]?=some jc→∀ (i:Nat) (v:Value),zeroH.cl[i]?=some v→jc[7+i]?=some v:=fun k jc hk i v hv=>by
    match k,hk with
    | 0,hk =>
      obtain rfl:_=jc:=by simpa using hk
      exact jobC_hand _ _ _ i v hv
    | 1,hk =>
      obtain rfl:_=jc:=by simpa using hk
      exact jobC_hand _ _ _ i v hv
    | k+2,hk=>simp at hk
  have hCT:∀ w B,CaseAt w B csA [jobC g1 g2 1,jobC g3 g4 1] (cT 1)→CaAt w B csA [jobC g1 g2 1,jobC g3 g4 1] (caT (cT 1)):=fun w B C=>caT_at C r0 r1 r2 (bareJobs_length [3,4] [lT]) rfl hJ (cT_mo 1)
  go_upto_region 4 with fail
  have bA:=bAl (bRefl w2) (.cells #[.int .i64 0,.int .i64 1] 3)
  have q:=hP.of (a:=caT (cT 1)) (l:=[0,1]) (n:=2) (cl:=2) (hCT _ _ ((C.below ((bAl (bRefl w2) (.cells #[.int .i64 0,.int .i64 1] 3)).mono (Nat.le_of_lt BC.lt))).more (Nat.le_of_lt (BC.alloc (.cells #[.int .i64 0,.int .i64 1] 3)).lt))) rfl (Rd.new w2 (ints [0,1]) _ 1 2 _ rfl rfl) (by omega) (by omega) (by omega) (hG.below (bCall hb bA)) jt_clear
  have LC:=load_case (BC.alloc (.cells #[.int .i64 0,.int .i64 1] 3)) hs
  apply wp_region_lit
  iterate 3 go_step
  refine wpList_loadG (by rfl) (by rfl) (by rfl) LC ?_
  simp only [Act.put,List.setIfInBounds_toArray,List.set_cons_zero,List.set_cons_succ]
  clear LC
  go_wp2_with fail
  (with_reducible refine q.mono ?_)
  rintro e w3 ⟨rfl,bN⟩
  clear q
  replace bA:=bCall bA bN
  clear bN
  replace C:=C.below (bA.mono (Nat.le_of_lt BC.lt))
  replace BC:=BC.below bA BC.lt
  replace hb:=bCall hb bA
  clear bA
  go_upto_region 5 with fail
  have V3:=Blk.new w3 37 #[.int .i64 (-1),.int .i64 0] _ rfl
  have bA:=bAl (bRefl w3) (.cells #[.int .i64 (-1),.int .i64 0] 37)
  replace C:=C.below (bA.mono (Nat.le_of_lt BC.lt))
  replace BC:=BC.below bA BC.lt
  replace hb:=bCall hb bA
  clear bA
  generalize w3.alloc (.cells #[.int .i64 (-1),.int .i64 0] 37)=w4 at *
  generalize w3.heap.size=vV3 at *
  have bA:=bAl (bRefl w4) (.cells #[.int .i64 0] 3)
  have q:=hP.of (a:=caT (cT 1)) (l:=[0]) (n:=1) (cl:=1) (hCT _ _ ((C.below ((bAl (bRefl w4) (.cells #[.int .i64 0] 3)).mono (Nat.le_of_lt BC.lt))).more (Nat.le_of_lt (BC.alloc (.cells #[.int .i64 0] 3)).lt))) rfl (Rd.new w4 (ints [0]) _ 1 1 _ rfl rfl) (by omega) (by omega) (by omega) (hG.below (bCall hb bA)) jt_short
  have LC:=load_case (BC.alloc (.cells #[.int .i64 0] 3)) hs
  apply wp_region_lit
  iterate 3 go_step
  refine wpList_loadG (by rfl) (by rfl) (by rfl) LC ?_
  simp only [Act.put,List.setIfInBounds_toArray,List.set_cons_zero,List.set_cons_succ]
  clear LC
  go_wp2_with fail
  (with_reducible refine q.mono ?_)
  rintro e w5 ⟨rfl,bN⟩
  clear q
  replace bA:=bCall bA bN
  clear bN
  replace C:=C.below (bA.mono (Nat.le_of_lt BC.lt))
  replace BC:=BC.below bA BC.lt
  replace V3:=V3.below bA V3.lt
  replace hb:=bCall hb bA
  clear bA
  go_upto_region 6 with fail
  have bA:=bAl (bRefl w5) (.cells #[.int .i64 0,.int .i64 0] 37)
  replace C:=C.below (bA.mono (Nat.le_of_lt BC.lt))
  replace BC:=BC.below bA BC.lt
  replace V3:=V3.below bA V3.lt
  replace hb:=bCall hb bA
  clear bA
  generalize w5.alloc (.cells #[.int .i64 0,.int .i64 0] 37)=w6 at *
  have bA:=bAl (bRefl w6) (.cells #[.int .i64 1,.int .i64 1] 3)
  have q:=hP.of (a:=caT (cT 1)) (l:=[1,1]) (n:=2) (cl:=2) (hCT _ _ ((C.below ((bAl (bRefl w6) (.cells #[.int .i64 1,.int .i64 1] 3)).mono (Nat.le_of_lt BC.lt))).more (Nat.le_of_lt (BC.alloc (.cells #[.int .i64 1,.int .i64 1] 3)).lt))) rfl (Rd.new w6 (ints [1,1]) _ 1 2 _ rfl rfl) (by omega) (by omega) (by omega) (hG.below (bCall hb bA)) jt_twice
  have LC:=load_case (BC.alloc (.cells #[.int .i64 1,.int .i64 1] 3)) hs
  apply wp_region_lit
  iterate 3 go_step
  refine wpList_loadG (by rfl) (by rfl) (by rfl) LC ?_
  simp only [Act.put,List.setIfInBounds_toArray,List.set_cons_zero,List.set_cons_succ]
  clear LC
  go_wp2_with fail
  (with_reducible refine q.mono ?_)
  rintro e w7 ⟨rfl,bN⟩
  clear q
  replace bA:=bCall bA bN
  clear bN
  replace C:=C.below (bA.mono (Nat.le_of_lt BC.lt))
  replace BC:=BC.below bA BC.lt
  replace V3:=V3.below bA V3.lt
  replace hb:=bCall hb bA
  clear bA
  go_upto_region 7 with fail
  have bA:=bAl (bRefl w7) (.cells #[.int .i64 0,.int .i64 0] 37)
  replace C:=C.below (bA.mono (Nat.le_of_lt BC.lt))
  replace BC:=BC.below bA BC.lt
  replace V3:=V3.below bA V3.lt
  replace hb:=bCall hb bA
  clear bA
  generalize w7.alloc (.cells #[.int .i64 0,.int .i64 0] 37)=w8 at *
  have q:=hP.of (a:=⟨zeroC,[],0,0,0⟩) (l:=[]) (n:=0) (Al:=none) (cl:=0) (zero_ca w8) rfl Rd.nil_ (by omega) (by omega) (by omega) (hG.below hb) jt_zero
  go_wp2_with fail
  (with_reducible refine q.mono ?_)
  rintro e w9 ⟨rfl,bN⟩
  clear q
  have bA:=bN
  clear bN
  replace C:=C.below (bA.mono (Nat.le_of_lt BC.lt))
  replace BC:=BC.below bA BC.lt
  replace V3:=V3.below bA V3.lt
  replace hb:=bCall hb bA
  clear bA
  go_upto_region 8 with fail
  have bA:=bAl (bRefl w9) (.cells #[.int .i64 0,.int .i64 0] 37)
  replace C:=C.below (bA.mono (Nat.le_of_lt BC.lt))
  replace BC:=BC.below bA BC.lt
  replace V3:=V3.below bA V3.lt
  replace hb:=bCall hb bA
  clear bA
  generalize w9.alloc (.cells #[.int .i64 0,.int .i64 0] 37)=w10 at *
  have LC:=load_case BC hs
  apply wp_region_lit
  refine wpList_loadG (by rfl) (by rfl) (by rfl) LC ?_
  simp only [Act.put,List.setIfInBounds_toArray,List.set_cons_zero,List.set_cons_succ]
  clear LC
  iterate 3 go_step
  refine wpList_storeG (by rfl) (by rfl) (by rfl) (by rfl) (store_newW (by rw [hs];exact case_info') (by rw [hs];rfl) C.one) ?_
  simp only [Act.put]
  have BO:=Blk.new w10 33 csA _ rfl
  have oblt:cb<w10.heap.size:=BC.lt
  have bA:=bAl (bRefl w10) (.cells csA 33)
  replace C:=C.below (bA.mono (Nat.le_of_lt BC.lt))
  replace BC:=BC.below bA BC.lt
  replace V3:=V3.below bA V3.lt
  replace hb:=bCall hb bA
  clear bA
  generalize w10.alloc (.cells csA 33)=w11 at *
  generalize w10.heap.size=ob at *
  go_upto_region 9 with fail
  obtain ⟨v7,h7⟩:∃ v,csA[7]?=some v:=⟨_,Array.getElem?_eq_getElem (by omega)⟩
  have x7:w11.cell? ⟨ob,7,none⟩=some v7:=(BO.cell 7).trans h7
  have z7:=BO.frozen 7
  go_upto_region 10 with fail
  clear x7 z7
  replace V3:=V3.farT (i:=7) BO (by decide) (.int .i64 2)
  replace BO:=BO.set_ 7 (.int .i64 2)
  replace C:=C.below (Below.setCell (Below.refl cb w11) (p:=⟨ob,7,none⟩) (by show cb≤ob;omega) (.int .i64 2))
  replace BC:=BC.far (p:=⟨ob,7,none⟩) (by show cb≠ob;omega) (.int .i64 2)
  replace hb:=bSet hb (p:=⟨ob,7,none⟩) (by show W.heap.size≤ob;omega) (.int .i64 2)
  generalize w11.setCell ⟨ob,7,none⟩ (.int .i64 2)=w12 at *
  have hsO:(csA.setIfInBounds 7 (.int .i64 2)).size=15:=by rw [Array.size_setIfInBounds];exact hs
  have hCO:∀ w B,CaseAt w B csA [jobC g1 g2 1,jobC g3 g4 1] (cT 1)→CaAt w B (csA.setIfInBounds 7 (.int .i64 2)) [jobC g1 g2 1,jobC g3 g4 1] (caT (cT 2)):=fun w B C=>caT_at (c:=cT 2) (C.setX 2) (by rw [set_ne (by decide)];exact r0) (by rw [set_ne (by decide)];exact r1) (by rw [set_ne (by decide)];exact r2) (bareJobs_length [3,4] [lT]) rfl hJ (cT_mo 2)
  have bA:=bAl (bRefl w12) (.cells #[.int .i64 0,.int .i64 1] 3)
  have q:=hP.of (a:=caT (cT 2)) (l:=[0,1]) (n:=2) (cl:=2) (hCO _ _ ((C.below ((bAl (bRefl w12) (.cells #[.int .i64 0,.int .i64 1] 3)).mono (Nat.le_of_lt BC.lt))).more (Nat.le_of_lt (BC.alloc (.cells #[.int .i64 0,.int .i64 1] 3)).lt))) rfl (Rd.new w12 (ints [0,1]) _ 1 2 _ rfl rfl) (by omega) (by omega) (by omega) (hG.below (bCall hb bA)) jt_sender
  have LC:=load_case (BO.alloc (.cells #[.int .i64 0,.int .i64 1] 3)) hsO
  apply wp_region_lit
  iterate 3 go_step
  refine wpList_loadG (by rfl) (by rfl) (by rfl) LC ?_
  simp only [Act.put,List.setIfInBounds_toArray,List.set_cons_zero,List.set_cons_succ]
  clear LC
  go_wp2_with fail
  (with_reducible refine q.mono ?_)
  rintro e w13 ⟨rfl,bN⟩
  clear q
  replace bA:=bCall bA bN
  clear bN
  replace C:=C.below (bA.mono (Nat.le_of_lt BC.lt))
  replace BC:=BC.below bA BC.lt
  replace V3:=V3.below bA V3.lt
  replace BO:=BO.below bA BO.lt
  replace hb:=bCall hb bA
  clear bA
  go_upto_region 11 with fail
  have V12:=Blk.new w13 37 #[.int .i64 (-1),.int .i64 1] _ rfl
  have bA:=bAl (bRefl w13) (.cells #[.int .i64 (-1),.int .i64 1] 37)
  replace C:=C.below (bA.mono (Nat.le_of_lt BC.lt))
  replace BC:=BC.below bA BC.lt
  replace V3:=V3.below bA V3.lt
  replace BO:=BO.below bA BO.lt
  replace hb:=bCall hb bA
  clear bA
  generalize w13.alloc (.cells #[.int .i64 (-1),.int .i64 1] 37)=w14 at *
  generalize w13.heap.size=vV12 at *
  have LC:=load_case BC hs
  apply wp_region_lit
  refine wpList_loadG (by rfl) (by rfl) (by rfl) LC ?_
  simp only [Act.put,List.setIfInBounds_toArray,List.set_cons_zero,List.set_cons_succ]
  clear LC
  iterate 3 go_step
  refine wpList_storeG (by rfl) (by rfl) (by rfl) (by rfl) (store_newW (by rw [hs];exact case_info') (by rw [hs];rfl) C.one) ?_
  simp only [Act.put]
  have BZ:=Blk.new w14 33 csA _ rfl
  have zblt:cb<w14.heap.size:=BC.lt
  have bA:=bAl (bRefl w14) (.cells csA 33)
  replace C:=C.below (bA.mono (Nat.le_of_lt BC.lt))
  replace BC:=BC.below bA BC.lt
  replace V3:=V3.below bA V3.lt
  replace V12:=V12.below bA V12.lt
  replace hb:=bCall hb bA
  clear bA
  generalize w14.alloc (.cells csA 33)=w15 at *
  generalize w14.heap.size=zb at *
  go_upto_region 12 with fail
  obtain ⟨AJ,cj,k5,hR⟩:=C.jobs
  have nj:(cT 1).jobs.length=2:=bareJobs_length [3,4] [lT]
  rw [nj] at k5 hR
  have y5:w15.cell? ⟨cb,5,none⟩=some (.slice AJ 2 cj):=(BC.cell 5).trans k5
  have hlc:cb<w15.heap.size:=BC.lt
  have hlz:zb<w15.heap.size:=BZ.lt
  have hone:∀ u∈[jobC g1 g2 1,jobC g3 g4 1].flatMap Array.toList,u.oneCell'=true:=fun u hu=>by
    obtain ⟨x,hx,hu⟩:=List.mem_flatMap.1 hu
    obtain ⟨i,hi⟩:=List.getElem?_of_mem hx
    exact (C.job i x hi).2.1 u hu
  apply wp_region_lit
  iterate 9 go_step
  refine wpList_appendG (.tmp 58) (.tmp 60) 26 w15.heap.size 55 zJob 49 280 (.slice (some ⟨w15.heap.size,0,none⟩) 0 0) 0 [] AJ 2 cj cb ([jobC g1 g2 1,jobC g3 g4 1].flatMap Array.toList) rfl rfl Tryz.underlying26 job_info4 rfl (by omega) rfl (own_empty w15 _ _ _ (Nat.le_refl _)) rfl
    (hR.alloc (by omega) _) (fun e=>by obtain ⟨b',off,e2,_⟩:=hR.2 (by omega);rw [e] at e2;cases e2) hone (by unfold maxLen;omega) (by omega) (by simp) (fun v15 w16 ownA hgA=>?_)
  obtain ⟨g,cap,cur,rfl,hgb,BG,hnc,hcm,hcs,hct⟩:=own_some ownA (by omega)
  have bA:Below w15.heap.size w15 w16:=(bAl (bRefl w15) (.cells #[] 55)).trans (hgA.below (own_empty w15 55 49 w15.heap.size (Nat.le_refl _)) (by simp))
  replace BZ:=BZ.below bA BZ.lt
  replace BC:=BC.below bA BC.lt
  replace V3:=V3.below bA V3.lt
  replace V12:=V12.below bA V12.lt
  replace C:=C.below (bA.mono (by omega))
  replace hR:=hR.below (bA.mono (by omega))
  replace hb:=bCall hb bA
  clear bA ownA hgA y5 hone
  have x5:w16.cell? ⟨zb,5,none⟩=some (.slice AJ 2 cj):=(BZ.cell 5).trans k5
  have z5:=BZ.frozen 5
  go_upto_region 13 with fail
  clear x5 z5
  replace V3:=V3.farT (i:=5) BZ (by decide) (.slice (some ⟨g,0,none⟩) 2 cap)
  replace V12:=V12.farT (i:=5) BZ (by decide) (.slice (some ⟨g,0,none⟩) 2 cap)
  replace BG:=BG.farT (i:=5) BZ (by decide) (.slice (some ⟨g,0,none⟩) 2 cap)
  replace BC:=BC.far (p:=⟨zb,5,none⟩) (by show cb≠zb;omega) (.slice (some ⟨g,0,none⟩) 2 cap)
  replace BZ:=BZ.set_ 5 (.slice (some ⟨g,0,none⟩) 2 cap)
  replace C:=C.below (Below.setCell (Below.refl cb w16) (p:=⟨zb,5,none⟩) (by show cb≤zb;omega) (.slice (some ⟨g,0,none⟩) 2 cap))
  replace hR:=hR.below (Below.setCell (Below.refl cb w16) (p:=⟨zb,5,none⟩) (by show cb≤zb;omega) (.slice (some ⟨g,0,none⟩) 2 cap))
  replace hb:=bSet hb (p:=⟨zb,5,none⟩) (by show W.heap.size≤zb;omega) (.slice (some ⟨g,0,none⟩) 2 cap)
  generalize w16.setCell ⟨zb,5,none⟩ (.slice (some ⟨g,0,none⟩) 2 cap)=w17 at *
  obtain ⟨jb,off,rfl,hjb,hcj⟩:=hR.2 (by omega)
  have x49:w17.cell? ⟨jb,off+49,none⟩=some (.slice (some ⟨g3,0,none⟩) 1 1):=hcj 49 _ rfl
  have hX5:(csA.setIfInBounds 5 (.slice (some ⟨g,0,none⟩) 2 cap))[5]?=some (.slice (some ⟨g,0,none⟩) 2 cap):=set_eq (by rw [hs];omega)
  have KS:Hid (∀ w',Below w17.heap.size w17 w'→w'.cell? ⟨zb,5,none⟩=some (.slice (some ⟨g,0,none⟩) 2 cap)∧w'.cell? ⟨cb,5,none⟩=some (.slice (some ⟨jb,off,none⟩) 2 cj)∧w'.cell? ⟨jb,off+49,none⟩=some (.slice (some ⟨g3,0,none⟩) 1 1)):=Lib.hid (fun w' hw=>⟨((BZ.below hw BZ.lt).cell 5).trans hX5,((BC.below hw BC.lt).cell 5).trans k5,(hw.cell (p:=⟨jb,off+49,none⟩) (by show jb<_;have:=BC.lt;omega)).trans x49⟩)
  obtain ⟨v51,h51⟩:∃ v,cur[51]?=some v:=⟨_,Array.getElem?_eq_getElem (by omega)⟩
  refine wp_region_schB (f:=10) KS [(0,1),(1,2),(2,1),(3,2),(4,1),(5,1),(6,2),(7,1),(8,1),(9,1),(10,3)] ?_
  simp only [pickS,List.getElem?_cons_zero,List.getElem?_cons_succ]
  refine wpSched_t ?_
  refine wpSched_r ?_
  refine wpSched_t ?_
  refine wpSched_r ?_
  refine wpSched_t ?_
  refine wpSched_t ?_
  refine wpSched_r ?_
  refine wpSched_t ?_
  refine wpSched_t ?_
  refine wpSched_t ?_
  refine wpSched_last ?_
  first | simp only [List.map_nil] | simp only [List.map_cons,List.map_nil]
  clear KS x49 hcj
  replace BZ:Blk w17.drew zb 33 _:=BZ
  replace BC:Blk w17.drew cb 33 _:=BC
  replace BG:Blk w17.drew g 55 _:=BG
  replace V3:Blk w17.drew vV3 37 _:=V3
  replace V12:Blk w17.drew vV12 37 _:=V12
  replace C:=C.below (bDr (bRefl w17) |>.mono (Nat.le_of_lt BC.lt))
  replace hb:=bDr hb
  generalize w17.drew=wd at *
  have x51:wd.cell? ⟨g,51,none⟩=some v51:=(BG.cell 51).trans h51
  have z51:=BG.frozen 51
  go_wp2_with fail
  refine NoPanic.normal ?_
  go_upto_region 14 with fail
  clear x51 z51
  have hcg:cb≤g:=by omega
  replace V3:=V3.farT (i:=51) BG (by decide) (.slice (some ⟨g3,0,none⟩) 1 1)
  replace V12:=V12.farT (i:=51) BG (by decide) (.slice (some ⟨g3,0,none⟩) 1 1)
  replace BC:=BC.farT (i:=51) BG (by decide) (.slice (some ⟨g3,0,none⟩) 1 1)
  replace BZ:=BZ.farT (i:=51) BG (by decide) (.slice (some ⟨g3,0,none⟩) 1 1)
  replace BG:=BG.set_ 51 (.slice (some ⟨g3,0,none⟩) 1 1)
  replace C:=C.below (Below.setCell (Below.refl cb wd) (p:=⟨g,51,none⟩) hcg (.slice (some ⟨g3,0,none⟩) 1 1))
  replace hb:=bSet hb (p:=⟨g,51,none⟩) (by show W.heap.size≤g;omega) (.slice (some ⟨g3,0,none⟩) 1 1)
  generalize wd.setCell ⟨g,51,none⟩ (.slice (some ⟨g3,0,none⟩) 1 1)=w18 at *
  have J0:JobIn' _ cb (jobC g1 g2 1) (bareJob 3 [lT]):=C.job 0 _ rfl
  have J1:JobIn' _ cb (jobC g3 g4 1) ((cT 1).jobAt 1):=C.job 1 _ rfl
  have hct2:=two_take hct J0.1 2 (.slice (some ⟨g3,0,none⟩) 1 1)
  have hcc:cb≤w18.heap.size:=Nat.le_of_lt BC.lt
  have hR2:Rd w18 w18.heap.size 49 (some ⟨g,0,none⟩) 2 ([jobC g1 g2 1,(jobC g3 g4 1).setIfInBounds 2 (.slice (some ⟨g3,0,none⟩) 1 1)].flatMap Array.toList):=Rd.of_blk BG hct2 (by rw [←hct2,List.length_take,Array.length_toList,Array.size_setIfInBounds,hcs,Nat.min_eq_left];omega)
  have hbl:((cT 1).jobAt 1).bare.length=1:=by
    show (bareX 4 (bareX 3 [lT])).length=1
    unfold bareX;simp
  have J1':=(J1.more hcc).setIn (v := .slice (some ⟨g3,0,none⟩) 1 1) (l:=((cT 1).jobAt 1).bare) ((J1.more hcc).2.2.1.h0) (by omega)
  have CD0:CaseAt w18 w18.heap.size (csA.setIfInBounds 5 (.slice (some ⟨g,0,none⟩) 2 cap)) [jobC g1 g2 1,(jobC g3 g4 1).setIfInBounds 2 (.slice (some ⟨g3,0,none⟩) 1 1)] (dT { (cT 1).jobAt 1 with mi:=((cT 1).jobAt 1).bare }) :=
    (C.more hcc).setJobs (cj:=cap) (jobs':=[bareJob 3 [lT],{ (cT 1).jobAt 1 with mi:=((cT 1).jobAt 1).bare }]) hR2 rfl (fun k jc hk=>by
      match k,hk with
      | 0,hk =>
        obtain rfl:_=jc:=by simpa using hk
        exact J0.more hcc
      | 1,hk =>
        obtain rfl:_=jc:=by simpa using hk
        exact J1'
      | k+2,hk=>simp at hk)
  have CD:CaAt w18 w18.heap.size (csA.setIfInBounds 5 (.slice (some ⟨g,0,none⟩) 2 cap)) [jobC g1 g2 1,(jobC g3 g4 1).setIfInBounds 2 (.slice (some ⟨g3,0,none⟩) 1 1)] (caT (dT { (cT 1).jobAt 1 with mi:=((cT 1).jobAt 1).bare })) :=
    caT_at CD0 (by rw [set_ne (by decide)];exact r0) (by rw [set_ne (by decide)];exact r1) (by rw [set_ne (by decide)];exact r2) rfl rfl (fun k jc hk i v hv=>by
      match k,hk with
      | 0,hk =>
        obtain rfl:_=jc:=by simpa using hk
        exact jobC_hand _ _ _ i v hv
      | 1,hk =>
        obtain rfl:_=jc:=by simpa using hk
        rw [set_ne (by omega)]
        exact jobC_hand _ _ _ i v hv
      | k+2,hk=>simp at hk) (fun k=>by
      match k with
      | 0=>rfl
      | 1=>rfl
      | k+2=>rfl)
  have hsZ:(csA.setIfInBounds 5 (.slice (some ⟨g,0,none⟩) 2 cap)).size=15:=by rw [Array.size_setIfInBounds];exact hs
  have hje:({ (cT 1).jobAt 1 with mi:=((cT 1).jobAt 1).bare } : Jb).emptyB=false:=by
    unfold Jb.emptyB
    rw [decide_eq_false]
    show ¬(((cT 1).jobAt 1).bare.length+_+_=0)
    omega
  have hjs:=jt_silent hje
  generalize ({ (cT 1).jobAt 1 with mi:=((cT 1).jobAt 1).bare } : Jb)=jz at *
  clear J0 J1 J1' hct2 hR2 BG hbl hje CD0
  have bA:=bAl (bRefl w18) (.cells #[.int .i64 0,.int .i64 1] 3)
  have q:=hP.of (a:=caT (dT jz)) (l:=[0,1]) (n:=2) (cl:=2) ((CD.below (bAl (bRefl w18) (.cells #[.int .i64 0,.int .i64 1] 3))).more (by simp)) rfl (Rd.new w18 (ints [0,1]) _ 1 2 _ rfl rfl) (by omega) (by omega) (by omega) (hG.below (bCall hb bA)) hjs
  have LC:=load_case (BZ.alloc (.cells #[.int .i64 0,.int .i64 1] 3)) hsZ
  apply wp_region_lit
  iterate 3 go_step
  refine wpList_loadG (by rfl) (by rfl) (by rfl) LC ?_
  simp only [Act.put,List.setIfInBounds_toArray,List.set_cons_zero,List.set_cons_succ]
  clear LC
  go_wp2_with fail
  (with_reducible refine q.mono ?_)
  rintro e w19 ⟨rfl,bN⟩
  clear q
  replace bA:=bCall bA bN
  clear bN
  replace C:=C.below (bA.mono (Nat.le_of_lt BC.lt))
  replace BC:=BC.below bA BC.lt
  replace V3:=V3.below bA V3.lt
  replace V12:=V12.below bA V12.lt
  replace BZ:=BZ.below bA BZ.lt
  replace hb:=bCall hb bA
  clear bA
  go_upto_region 15 with fail
  have V15:=Blk.new w19 37 #[.int .i64 1,.int .i64 5] _ rfl
  have bA:=bAl (bRefl w19) (.cells #[.int .i64 1,.int .i64 5] 37)
  replace C:=C.below (bA.mono (Nat.le_of_lt BC.lt))
  replace BC:=BC.below bA BC.lt
  replace V3:=V3.below bA V3.lt
  replace V12:=V12.below bA V12.lt
  replace BZ:=BZ.below bA BZ.lt
  replace hb:=bCall hb bA
  clear bA
  generalize w19.alloc (.cells #[.int .i64 1,.int .i64 5] 37)=w20 at *
  generalize w19.heap.size=vV15 at *
  obtain ⟨a0,a1,_⟩:=V3.two_
  obtain ⟨c0,c1,_⟩:=V12.two_
  obtain ⟨d0,d1,_⟩:=V15.two_
  go_wp2_with fail
  go_ret
  exact ⟨by simp,hb⟩
theorem wrong_same {a a':Ca} {l:List Int} {j:Nat} (hc:a'.c=a.c) (h1:a'.line=a.line) (h2:a'.at_=a.at_) (h3:a'.arrive=a.arrive) (hh:a'.handAt j=a.handAt j):a'.wrong l j=a.wrong l j:=by
  unfold Ca.wrong Ca.right
  rw [hc,h1,h2,h3,hh]
theorem judge_other {a a':Ca} {l:List Int} {x y:Int} {i:Nat} (hc:a'.c=a.c) (h1:a'.line=a.line) (h2:a'.at_=a.at_) (h3:a'.arrive=a.arrive) (hh:∀ j,j≠i→a'.handAt j=a.handAt j) (hR:a.judge l=(x,y,0)) (hx:0≤x) (hi:x<(i:Int)):a'.judge l=(x,y,0):=by
  obtain ⟨g1,g2,g3⟩:=judge_zero hR
  have hw:∀ j,j≠i→a'.wrong l j=a.wrong l j:=fun j hj=>wrong_same hc h1 h2 h3 (hh j hj)
  have hlim:a'.lim l=a.lim l:=by unfold Ca.lim;rw [hc]
  by_cases hs:a.c.check.2.1=1
  · rw [judge_send g1 g2 g3 hs] at hR
    simp at hR
    omega
  have g2':l.length=a'.c.keys.length:=by rw [hc];exact g2
  have g3':a'.c.check.2.2=0:=by rw [hc];exact g3
  have hs':a'.c.check.2.1≠1:=by rw [hc];exact hs
  cases hf:firstW (a.wrong l) (a.lim l) 0 with
  | some k =>
    obtain ⟨_,k2,k3,k4⟩:=firstW_some hf
    rw [judge_hit g1 g2 g3 hs (by omega) k3 (fun j hj=>k4 j (Nat.zero_le _) hj)] at hR
    simp at hR
    obtain ⟨rfl,rfl⟩:=hR
    have hki:k<i:=by omega
    exact judge_hit g1 g2' g3' hs' (by rw [hlim];omega) (by rw [hw k (by omega)];exact k3) (fun j hj=>by rw [hw j (by omega)];exact k4 j (Nat.zero_le _) hj)
  | none =>
    have hn:=fun j (hj:j<a.lim l)=>firstW_none.1 hf j (Nat.zero_le _) (by omega)
    rw [judge_miss g1 g2 g3 hs hn] at hR
    split at hR
    · simp at hR;omega
    · rename_i h0
      simp at hR
      obtain ⟨e1,e2⟩:=hR
      have hli:a.lim l≤i:=by unfold Ca.lim;rw [if_neg h0];omega
      rw [judge_miss g1 g2' g3' hs' (fun j hj=>by
        rw [hlim] at hj
        rw [hw j (by omega)];exact hn j hj),hc,if_neg h0,e1,e2]
theorem judge_errs {a:Ca} {l:List Int} {x y e:Int} (hR:a.judge l=(x,y,e)) (he:e≠0):x=0∧y=0:=by
  by_cases h1:lineB l=true∧l.length=a.c.keys.length
  case neg=>rw [judge_bad h1] at hR;simp at hR;omega
  by_cases h2:a.c.check.2.2=0
  case neg=>rw [judge_err h1.1 h1.2 h2] at hR;simp at hR;omega
  exfalso
  unfold Ca.judge at hR
  rw [if_pos h1,if_neg (by rw [h2];simp)] at hR
  split at hR
  · simp at hR;omega
  · split at hR
    · simp at hR;omega
    · split at hR
      · simp at hR;omega
      · simp at hR;omega
theorem judge_all {a:Ca} {l:List Int} {x y ck why:Int} (hR:a.judge l=(x,y,0)) (hC:a.c.check=(ck,why,0)) (hb:a.okTo l l.length):y=why∧x=if why=0∨why=1 then -1 else ck:=by
  obtain ⟨g1,g2,g3⟩:=judge_zero hR
  by_cases hw:why=1
  · subst hw
    obtain ⟨rfl,rfl⟩:=judge_sent hR hC
    exact ⟨rfl,by rw [if_pos (.inr rfl)]⟩
  · have hr:=check_range g3
    have hlim:a.lim l≤l.length:=by
      rw [hC] at hr
      rw [lim_of hC]
      split
      · exact Nat.le_refl _
      · simp at hr
        omega
    rw [judge_miss g1 g2 g3 (by rw [hC];exact hw) (fun j hj=>hb j (by omega)),hC] at hR
    by_cases h0:why=0
    · subst h0
      simp at hR
      exact ⟨hR.2.symm,by rw [if_pos (.inl rfl)];exact hR.1.symm⟩
    · simp [h0] at hR
      exact ⟨hR.2.symm,by rw [if_neg (by omega)];exact hR.1.symm⟩
def withHand (jc:Array Value) (hd:Hd):Array Value:=(jc.toList.take 7++hd.cl).toArray
theorem withHand_size {jc:Array Value} {hd:Hd} (hs:jc.size=49) (ho:hd.ok):(withHand jc hd).size=49:=by
  unfold withHand
  rw [List.size_toArray,List.length_append,List.length_take,Array.length_toList,hs,Hd.cl_length ho]
  rfl
theorem withHand_low {jc:Array Value} {hd:Hd} (hs:jc.size=49) {i:Nat} (hi:i<7):(withHand jc hd)[i]?=jc[i]?:=by
  unfold withHand
  rw [List.getElem?_toArray,List.getElem?_append_left (by rw [List.length_take,Array.length_toList,hs];omega),List.getElem?_take,if_pos hi,Array.getElem?_toList]
theorem withHand_hand {jc:Array Value} {hd:Hd} (hs:jc.size=49) (i:Nat):(withHand jc hd)[7+i]?=hd.cl[i]?:=by
  unfold withHand
  have hl:(jc.toList.take 7).length=7:=by rw [List.length_take,Array.length_toList,hs];rfl
  rw [List.getElem?_toArray,List.getElem?_append_right (by rw [hl];omega),hl,Nat.add_sub_cancel_left]
theorem withHand_in {w:World} {B:Nat} {jc:Array Value} {j:Jb} {hd:Hd} (h:JobIn' w B jc j) (ho:hd.ok):JobIn' w B (withHand jc hd) j:=by
  obtain ⟨a1,a2,a3,a4⟩:=h
  refine ⟨withHand_size a1 ho,fun v hv=>?_,⟨?_,?_,?_,?_,?_,?_,?_⟩,a4⟩
  · unfold withHand at hv
    rw [List.toList_toArray] at hv
    rcases List.mem_append.1 hv with hv | hv
    · exact a2 v (List.mem_of_mem_take hv)
    · exact hd.one v hv
  · show LsAt w B ((withHand jc hd)[0]?) _;rw [withHand_low a1 (by omega)];exact a3.h0
  · show LsAt w B ((withHand jc hd)[1]?) _;rw [withHand_low a1 (by omega)];exact a3.h1
  · show LsAt w B ((withHand jc hd)[2]?) _;rw [withHand_low a1 (by omega)];exact a3.h2
  · show LsAt w B ((withHand jc hd)[3]?) _;rw [withHand_low a1 (by omega)];exact a3.h3
  · show LsAt w B ((withHand jc hd)[4]?) _;rw [withHand_low a1 (by omega)];exact a3.h4
  · show DsAt w B ((withHand jc hd)[5]?) _;rw [withHand_low a1 (by omega)];exact a3.h5
  · show DsAt w B ((withHand jc hd)[6]?) _;rw [withHand_low a1 (by omega)];exact a3.h6
theorem cells_hand {cur:Array Value} {jcs:List (Array Value)} {n cap m:Nat} {jc:Array Value} {hd:Hd} (hcs:cur.size=cap*49) (hnc:n≤cap) (hct:cur.toList.take (n*49)=jcs.flatMap Array.toList) (hj:∀ y∈jcs,y.toList.length=49) (hl:jcs.length=n) (hm:jcs[m]?=some jc) (ho:hd.ok) :
    (cur.toList.take (m*49+7)++hd.cl++cur.toList.drop (m*49+7+42)).take (n*49)=(jcs.set m (withHand jc hd)).flatMap Array.toList:=by
  have hmn:m<jcs.length:=(List.getElem?_eq_some_iff.1 hm).1
  have hc42:=Hd.cl_length ho
  have h1:m*49+49≤n*49:=by have:=Nat.mul_le_mul_right 49 (show m+1≤n by omega);omega
  have h2:n*49≤cap*49:=Nat.mul_le_mul_right 49 hnc
  have hjc:jc.toList.length=49:=hj jc (List.mem_of_getElem? hm)
  have e1:=take_seg (l:=cur.toList) (x:=hd.cl) (o:=m*49+7) (n:=n*49) (by rw [hc42];omega) (by rw [Array.length_toList,hcs];exact h2)
  rw [hc42,hct] at e1
  rw [e1]
  have e2:=flatA_set (sz:=49) jcs m (withHand jc hd) hj hmn
  rw [←e2]
  have e3:(jcs.flatMap Array.toList).take (m*49+7)=(jcs.flatMap Array.toList).take (m*49)++jc.toList.take 7:=by
    rw [List.take_add]
    congr 1
    apply List.ext_getElem?
    intro j
    rw [List.getElem?_take,List.getElem?_take]
    split
    · rw [List.getElem?_drop,flat_mem jcs m j jc hj hm (by omega)]
    · rfl
  rw [e3]
  unfold withHand
  rw [List.toList_toArray]
  simp only [List.append_assoc]
theorem CaAt.setHand {w:World} {B:Nat} {cs:Array Value} {jcs:List (Array Value)} {a:Ca} (h:CaAt w B cs jcs a) {m cj:Nat} {jc:Array Value} {hd:Hd} {A:Option Addr} (hm:jcs[m]?=some jc) (ho:hd.ok) (hR:Rd w B 49 A a.c.jobs.length ((jcs.set m (withHand jc hd)).flatMap Array.toList)) :
    CaAt w B (cs.setIfInBounds 5 (.slice A a.c.jobs.length cj)) (jcs.set m (withHand jc hd)) { a with hs:=a.hs.set m hd }:=by
  have hmn:m<jcs.length:=(List.getElem?_eq_some_iff.1 hm).1
  have hjob:∀ k jc',(jcs.set m (withHand jc hd))[k]?=some jc'→JobIn' w B jc' (a.c.jobs.getD k zeroJ):=fun k jc' hk=>by
    rw [List.getElem?_set] at hk
    split at hk
    · rename_i e
      subst e
      injection hk with hk
      subst hk
      exact withHand_in (h.c.job m jc hm) ho
    · exact h.c.job k jc' hk
  have C:=h.c.setJobs (cj:=cj) (jobs':=a.c.jobs) hR (by rw [List.length_set];exact h.c.jlen) hjob
  refine ⟨C,by rw [set_ne (by decide)];exact h.run0,by rw [set_ne (by decide)];exact h.run1,by rw [set_ne (by decide)];exact h.run2,by rw [List.length_set];exact h.hl,fun k jc' hd' h1 h2 i v hv=>?_,fun x hx=>?_,h.kok,h.lok,h.mlen⟩
  · rw [List.getElem?_set] at h1
    change (a.hs.set m hd)[k]?=some hd' at h2
    rw [List.getElem?_set] at h2
    split at h1
    · rename_i e
      subst e
      injection h1 with h1
      subst h1
      rw [if_pos rfl,if_pos (by rw [h.hl,←h.c.jlen];exact hmn)] at h2
      injection h2 with h2
      subst h2
      rw [withHand_hand (h.c.job m jc hm).1]
      exact hv
    · rename_i e
      rw [if_neg e] at h2
      exact h.hand k jc' hd' h1 h2 i v hv
  · rcases List.mem_or_eq_of_mem_set hx with hx | rfl
    · exact h.hok x hx
    · exact ho
theorem setHand_at {a:Ca} {m:Nat} {hd:Hd} {j:Nat} (hj:j≠m):({ a with hs:=a.hs.set m hd } : Ca).handAt j=a.handAt j:=by
  unfold Ca.handAt
  rw [List.getD_eq_getElem?_getD,List.getD_eq_getElem?_getD]
  show ((a.hs.set m hd)[j]?).getD zeroH=_
  rw [List.getElem?_set,if_neg (fun e=>hj e.symm)]
theorem Cs.bares_iff {c:Cs} : c.bares=true↔∀ i,i<c.keys.length→c.bareAt i=true:=by
  unfold Cs.bares
  rw [List.all_eq_true]
  exact ⟨fun h i hi=>h i (List.mem_range.2 hi),fun h i hi=>h i (List.mem_range.1 hi)⟩
theorem key_at {w:World} {B:Nat} {A:Option Addr} {l:List Int} {n k:Nat} (h:Rd w B 1 A n (ints l)) (hn:k<n) (hl:l.length=n):∃ b off x,A=some ⟨b,off,none⟩∧b<B∧l[k]?=some x∧w.cell? ⟨b,off+k,none⟩=some (.int .i64 x):=by
  have hx:l[k]?=some l[k]:=List.getElem?_eq_getElem (by omega)
  obtain ⟨b,off,e,hb,hc⟩:=Int_at h hn hx
  exact ⟨b,off,_,e,hb,hx,hc⟩
theorem ref_formed55 (cs:Array Value) (jcs:List (Array Value)) (c:Cs) (W:World) (h:CaseAt W W.heap.size cs jcs c) (hfew:c.jobs.length≤1000) (hfl:c.first.length≤1152921504606846976) :
    Calls Tryz.prog 12 #[.agg cs] W (Ret (.bool (c.formed&&(c.valid&&c.bares))) W):=by
  obtain ⟨v,hv⟩:∃ v,v=(c.formed&&(c.valid&&c.bares)):=⟨_,rfl⟩
  rw [←hv]
  have hfd:c.formed=formedB c.keys.length c.jobs.length c.steps.length c.first c.place:=rfl
  unfold formedB at hfd
  obtain ⟨A3,c3,h3,r3,l3,l3'⟩:=h.first
  obtain ⟨A4,c4,h4,r4⟩:=h.keys
  obtain ⟨A5,c5,h5,r5⟩:=h.jobs
  obtain ⟨A13,c13,h13,r13⟩:=h.steps
  have h6:=h.place
  have B0:=Blk.new W 33 cs _ rfl
  have hb:=bAl (bRefl W) (.cells cs 33)
  have k3:=(B0.cell 3).trans h3
  have k4:=(B0.cell 4).trans h4
  have k5:=(B0.cell 5).trans h5
  have k6:=(B0.cell 6).trans h6
  have k13:=(B0.cell 13).trans h13
  go_enter Tryz.func12,Tryz.ntmps12
  go_upto_region 1 with fail
  generalize W.alloc (.cells cs 33)=w1 at *
  by_cases t1:2≤c.keys.length
  case neg =>
    have Hv:Hid (v=false):=by show _=_;rw [hv,hfd,decide_eq_false t1];simp
    have e0:decide ((c.keys.length:Int)<2)=true:=by rw [decide_eq_true];omega
    clear t1
    clear hv hfd
    go_wp2_with fail
    go_ret
    exact ⟨ret_bool Hv.out.symm,hb⟩
  have e0:decide ((c.keys.length:Int)<2)=false:=by rw [decide_eq_false];omega
  by_cases t2:c.keys.length≤9
  case neg =>
    have Hv:Hid (v=false):=by show _=_;rw [hv,hfd,decide_eq_false t2];simp
    have e1:decide (9<(c.keys.length:Int))=true:=by rw [decide_eq_true];omega
    clear t1 t2
    clear hv hfd
    go_wp2_with fail
    go_ret
    exact ⟨ret_bool Hv.out.symm,hb⟩
  have e1:decide (9<(c.keys.length:Int))=false:=by rw [decide_eq_false];omega
  by_cases t3:c.jobs.length=c.keys.length
  case neg =>
    have Hv:Hid (v=false):=by show _=_;rw [hv,hfd,decide_eq_false t3];simp
    have e2:((c.jobs.length:Int) != (c.keys.length:Int))=true:=by rw [bne_iff_ne];omega
    clear t1 t2 t3
    clear hv hfd
    go_wp2_with fail
    go_ret
    exact ⟨ret_bool Hv.out.symm,hb⟩
  have e2:((c.jobs.length:Int) != (c.keys.length:Int))=false:=by rw [bne_eq_false_iff_eq];omega
  by_cases t4:c.steps.length≤c.keys.length
  case neg =>
    have Hv:Hid (v=false):=by show _=_;rw [hv,hfd,decide_eq_false t4];simp
    have e3:decide (c.keys.length<c.steps.length)=true:=by rw [decide_eq_true];omega
    clear t1 t2 t3 t4
    clear hv hfd
    go_wp2_with fail
    go_ret
    exact ⟨ret_bool Hv.out.symm,hb⟩
  have e3:decide (c.keys.length<c.steps.length)=false:=by rw [decide_eq_false];omega
  rw [decide_eq_true t1,decide_eq_true t2,decide_eq_true t3,decide_eq_true t4] at hfd
  have T3:=Lib.hid t3
  have hn9:c.keys.length≤9:=t2
  have Hfd:=Lib.hid hfd
  have Hv0:=Lib.hid hv
  clear t1 t2 t3 t4 hv hfd
  go_wp2_with fail
  clear e0 e1 e2 e3
  go_loop [4] (fun i=>∃ k:Nat,k≤c.keys.length∧i = .int .i64 k∧Hid (∀ x∈c.keys.take k,validB x=true)) (fun i=>c.keys.length - (intOf i).toNat)
  case atStart=>exact ⟨0,Nat.zero_le _,rfl,Lib.hid (by simp)⟩
  case round =>
    obtain ⟨k,hkn,rfl,hp⟩:=hrel
    by_cases hlt:k<c.keys.length
    · obtain ⟨bk,ok,x,eK,hbk,hx0,d0⟩:=key_at (r4.below hb) hlt rfl
      subst eK
      have hx:=Lib.hid hx0
      clear hx0
      have q:=ref_valid x w1
      have i0:(0:Int)≤(k:Int):=by omega
      have i1:(k:Int)<(c.keys.length:Int):=by omega
      cases hvx:validB x
      · have Hv:Hid (v=false):=by
          show _=_
          rw [Hv0.out]
          have:c.valid=false:=by
            unfold Cs.valid
            exact List.all_eq_false.2 ⟨x,List.mem_of_getElem? hx.out,by rw [hvx];simp⟩
          rw [this];simp
        rw [hvx] at q
        clear hvx
        go_wp2_with fail
        (with_reducible refine q.mono ?_)
        rintro e w2 ⟨rfl,rfl⟩
        go_wp2_with fail
        go_ret
        exact ⟨ret_bool Hv.out.symm,hb⟩
      · have hp':Hid (∀ z∈c.keys.take (k+1),validB z=true):=by
          intro z hz
          obtain ⟨hk,rfl⟩:=List.getElem?_eq_some_iff.1 hx.out
          rw [List.take_succ_eq_append_getElem hk] at hz
          rcases List.mem_append.1 hz with hz | hz
          · exact hp.out z hz
          · obtain rfl:z=c.keys[k]:=by simpa using hz
            exact hvx
        rw [hvx] at q
        clear hvx
        go_wp2_with fail
        (with_reducible refine q.mono ?_)
        rintro e w2 ⟨rfl,rfl⟩
        go_wp2_with fail
        exact ⟨⟨k+1,by omega,by go_num,hp'⟩,by simp [intOf];omega⟩
    · have hvd:c.valid=true:=by
        unfold Cs.valid
        exact List.all_eq_true.2 (by have:=hp.out;rw [List.take_of_length_le (by omega)] at this;exact this)
      have hv:v=(c.formed&&c.bares):=by rw [Hv0.out,hvd];rfl
      have hfd:=Hfd.out
      clear hp
      by_cases t5:c.first.length≠0
      case neg =>
        have Hv:Hid (v=false):=by show _=_;rw [hv,hfd,decide_eq_false t5];simp
        have e5:decide ((c.first.length:Int)<1)=true:=by rw [decide_eq_true];omega
        clear hv hfd t5
        go_wp2_with fail
        go_ret
        exact ⟨ret_bool Hv.out.symm,hb⟩
      have e5:decide ((c.first.length:Int)<1)=false:=by rw [decide_eq_false];omega
      by_cases t6:c.first.length≤64
      case neg =>
        have Hv:Hid (v=false):=by show _=_;rw [hv,hfd,decide_eq_false t6];simp
        have e6:decide (64<(c.first.length:Int))=true:=by rw [decide_eq_true];omega
        clear hv hfd t6
        clear t5
        go_wp2_with fail
        go_ret
        exact ⟨ret_bool Hv.out.symm,hb⟩
      have e6:decide (64<(c.first.length:Int))=false:=by rw [decide_eq_false];omega
      have q:=ref_formed A3 c.first.length c3 c.first w1 ((r3.below hb).more hb.size) (by omega)
      cases hg:c.first.all Ltr.good
      · have Hv:Hid (v=false):=by show _=_;rw [hv,hfd,hg];simp
        rw [hg] at q
        clear hv hfd hg
        clear t5 t6
        go_wp2_with fail
        (with_reducible refine q.mono ?_)
        rintro e w2 ⟨rfl,b2⟩
        go_wp2_with fail
        go_ret
        exact ⟨ret_bool Hv.out.symm,bCall hb b2⟩
      rw [hg] at q
      by_cases t7:0≤c.place
      case neg =>
        have Hv:Hid (v=false):=by show _=_;rw [hv,hfd,decide_eq_false (fun hh:0≤c.place∧c.place<c.first.length=>t7 hh.1)];simp
        have e7:decide (c.place<0)=true:=by rw [decide_eq_true];omega
        clear hv hfd hg t7
        clear t5 t6
        go_wp2_with fail
        (with_reducible refine q.mono ?_)
        rintro e w2 ⟨rfl,b2⟩
        have k6:=(B0.below b2 B0.lt).cell 6 |>.trans h6
        go_wp2_with fail
        go_ret
        exact ⟨ret_bool Hv.out.symm,bCall hb b2⟩
      have e7:decide (c.place<0)=false:=by rw [decide_eq_false];omega
      by_cases t8:c.place<c.first.length
      case neg =>
        have Hv:Hid (v=false):=by show _=_;rw [hv,hfd,decide_eq_false (fun hh:0≤c.place∧c.place<c.first.length=>t8 hh.2)];simp
        have e8:decide ((c.first.length:Int)≤c.place)=true:=by rw [decide_eq_true];omega
        clear hv hfd hg t7 t8
        clear t5 t6
        go_wp2_with fail
        (with_reducible refine q.mono ?_)
        rintro e w2 ⟨rfl,b2⟩
        have k6:=(B0.below b2 B0.lt).cell 6 |>.trans h6
        have k3:=(B0.below b2 B0.lt).cell 3 |>.trans h3
        go_wp2_with fail
        go_ret
        exact ⟨ret_bool Hv.out.symm,bCall hb b2⟩
      have e8:decide ((c.first.length:Int)≤c.place)=false:=by rw [decide_eq_false];omega
      have Hv1:Hid (v=c.bares):=by
        show _=_
        rw [hv,hfd,hg,decide_eq_true t5,decide_eq_true t6,decide_eq_true (⟨t7,t8⟩:0≤c.place∧c.place<c.first.length)];rfl
      have T6:=Lib.hid t6
      clear hv hfd hg t5 t6 t7 t8 hvd
      go_wp2_with fail
      (with_reducible refine q.mono ?_)
      rintro e w2 ⟨rfl,b2⟩
      have BC:=B0.below b2 B0.lt
      have hb2:=bCall hb b2
      clear q
      have k6:=(BC.cell 6).trans h6
      have k3:=(BC.cell 3).trans h3
      have k4:=(BC.cell 4).trans h4
      have k5:=(BC.cell 5).trans h5
      go_wp2_with fail
      clear e5 e6 e7 e8 k6 k3 k4 k5 k13
      go_loopw [5] (fun i wr=>∃ m:Nat,m≤c.keys.length∧i = .int .i64 m∧Below W.heap.size W wr∧Blk wr W.heap.size 33 cs∧Hid (∀ i,i<m→c.bareAt i=true)) (fun i _=>c.keys.length - (intOf i).toNat)
      case atStart=>exact ⟨0,Nat.zero_le _,rfl,hb2,BC,Lib.hid (fun i hi=>by omega)⟩
      case round =>
        clear hb2 BC b2 hlt B0 hb
        obtain ⟨m,hmn,rfl,hb,BC,hp⟩:=hrel
        by_cases hlt:m<c.keys.length
        · have hmj:m<c.jobs.length:=by have:=T3.out;omega
          have hH:=(h.below hb).more hb.size
          obtain ⟨bj,oj,cj,h5',hbj,hL⟩:=hH.jobLoad (by omega)
          have k5:=(BC.cell 5).trans h5'
          obtain ⟨jc,hjc⟩:∃ jc,Hid (jcs[m]?=some jc):=⟨_,Lib.hid (List.getElem?_eq_getElem (by rw [h.jlen];omega))⟩
          obtain ⟨a1,a2,a3,a4⟩:=h.job m jc hjc.out
          have LJ:=(hL m jc hjc.out).1
          obtain ⟨bk,ok,x,eK,hbk,hx0,d0⟩:=key_at (r4.below hb) hlt rfl
          have hkx:Hid (c.keyAt m=x):=by show _=_;unfold Cs.keyAt;rw [List.getD_eq_getElem?_getD,hx0];rfl
          have i0:(0:Int)≤(m:Int):=by omega
          have i1:(m:Int)<(c.jobs.length:Int):=by omega
          have i2:(m:Int)<(c.keys.length:Int):=by omega
          have LS:(Instr.storeAt 55 (.pointer (some ⟨wr.heap.size,0,none⟩)) (.agg jc)).run Tryz.prog (wr.alloc (.cells zJobC 55)) = .ok () (wr.alloc (.cells jc 55)):=store_newW (by rw [a1];exact job_info) (by rw [a1];rfl) a2
          clear hL hx0 h5'
          go_upto_region 14 with fail
          apply wp_region_lit
          iterate 12 go_step
          refine wpList_loadG (by rfl) (by rfl) (by rfl) LJ ?_
          simp only [Act.put,List.setIfInBounds_toArray,List.set_cons_zero,List.set_cons_succ]
          iterate 3 go_step
          refine wpList_storeG (by rfl) (by rfl) (by rfl) (by rfl) LS ?_
          simp only [Act.put]
          have BJ:=Blk.new wr 55 jc _ rfl
          have BC2:=BC.alloc (.cells jc 55)
          have hb2:=bAl hb (.cells jc 55)
          have hgj:W.heap.size<wr.heap.size:=BC.lt
          clear BC LJ LS k5
          have hbr:=hb.size
          have hb3:Below wr.heap.size wr (wr.alloc (.cells jc 55)):=bAl (bRefl _) _
          have d0':(wr.alloc (.cells jc 55)).cell? ⟨bk,ok+m,none⟩=some (.int .i64 x):=(hb3.cell (p:=⟨bk,ok+m,none⟩) (by show bk<_;omega)).trans d0
          clear hb d0
          generalize wr.alloc (.cells jc 55)=w5 at *
          generalize wr.heap.size=gj at *
          obtain ⟨A0,c0,j0,s0,-⟩:=a3.h0
          obtain ⟨A1,c1,j1,s1,l1,l1'⟩:=a3.h1
          have qe:=fun w=>ref_empty jc (c.jobAt m).emptyB w (a3.lens3 a4)
          have hba:Hid (c.bareAt m=(!(c.jobAt m).emptyB||checkBareB x (c.inAt m) (c.jobAt m).bare (c.jobAt m).proofs)):=by show _=_;rw [←hkx.out];rfl
          have LC:Hid (∀ w',Below w5.heap.size w5 w'→(Instr.loadAt 55 (.pointer (some ⟨gj,0,none⟩))).run Tryz.prog w' = .ok (.agg jc) w'∧(Instr.loadAt 33 (.pointer (some ⟨W.heap.size,0,none⟩))).run Tryz.prog w' = .ok (.agg cs) w'∧w'.cell? ⟨W.heap.size,4,none⟩=some (.slice (some ⟨bk,ok,none⟩) c.keys.length c4)∧w'.cell? ⟨bk,ok+m,none⟩=some (.int .i64 x)∧w'.cell? ⟨gj,0,none⟩=some (.slice A0 (c.jobAt m).bare.length c0)∧w'.cell? ⟨gj,1,none⟩=some (.slice A1 (c.jobAt m).proofs.length c1)):=Lib.hid (fun w' hw=>⟨load_job (BJ.below hw BJ.lt) a1,load_case (BC2.below hw BC2.lt) h.size,((BC2.below hw BC2.lt).cell 4).trans (h4.trans (by rw [eK])),(hw.cell (p:=⟨bk,ok+m,none⟩) (by have:=hb2.size;show bk<_;omega)).trans d0',((BJ.below hw BJ.lt).cell 0).trans j0,((BJ.below hw BJ.lt).cell 1).trans j1⟩)
          clear d0' eK
          cases hem:(c.jobAt m).emptyB
          case false =>
            have hok:c.bareAt m=true:=by rw [hba.out,hem];rfl
            have hp':Hid (∀ i,i<m+1→c.bareAt i=true):=by
              intro i hi
              by_cases him:i<m
              · exact hp.out i him
              · obtain rfl:i=m:=by omega
                exact hok
            rw [hem] at qe
            clear hem hok
            go_upto_region 15 with fail
            refine wp_region_schB (f:=17) LC [(0,2),(1,0),(2,1),(3,1),(4,1),(5,1),(6,1),(7,1),(8,1),(9,1),(11,1),(12,1),(13,1),(14,1),(10,0),(15,0),(16,1),(17,3)] ?_
            simp only [pickS,List.getElem?_cons_zero,List.getElem?_cons_succ]
            refine wpSched_r (v:=?v1) (hv:=?h1) ?_;case h1=>(intro w hSw;(first | refine (exec_load rfl rfl hSw).trans ?_ | refine (exec_load rfl rfl hSw.1).trans ?_ | refine (exec_load rfl rfl hSw.2.1).trans ?_ | refine (exec_load rfl rfl hSw.2.2.1).trans ?_ | refine (exec_load rfl rfl hSw.2).trans ?_ | refine (exec_load rfl rfl hSw.2.2).trans ?_);with_reducible rfl)
            refine wpSched_force (fun K hK=>?_)
            go_simp;(first | (go_at_call 13;(with_reducible refine (qe _).mono ?_);rintro e w9 ⟨rfl,b9⟩;have B7:Below w5.heap.size w5 w9:=bCall (bDr (bRefl _)) b9) | skip)
            refine shut_go hK LC ?_
            clear hK K
            refine wpSched_t ?_
            refine wpSched_p ?_
            refine wpSched_p ?_
            refine wpSched_p ?_
            refine wpSched_p ?_
            refine wpSched_p ?_
            refine wpSched_p ?_
            refine wpSched_p ?_
            refine wpSched_p ?_
            refine wpSched_p ?_
            refine wpSched_p ?_
            refine wpSched_p ?_
            refine wpSched_force (fun K hK=>?_)
            go_simp;(first | (go_at_call 13;(with_reducible refine (qe _).mono ?_);rintro e w9 ⟨rfl,b9⟩;have B7:Below w5.heap.size w5 w9:=bCall (bDr (bRefl _)) b9) | skip)
            refine shut_go hK LC ?_
            clear hK K
            refine wpSched_force (fun K hK=>?_)
            go_simp;(first | (go_at_call 13;(with_reducible refine (qe _).mono ?_);rintro e w9 ⟨rfl,b9⟩;have B7:Below w5.heap.size w5 w9:=bCall (bDr (bRefl _)) b9) | skip)
            refine shut_go hK LC ?_
            clear hK K
            refine wpSched_p ?_
            refine wpSched_last ?_
            first | simp only [List.map_nil] | simp only [List.map_cons,List.map_nil]
            have BC9:=BC2.below B7 BC2.lt
            have hb9:=bCall hb2 B7
            clear LC B7 BC2 BJ hb2 hb3 qe
            go_wp2_with fail
            refine NoPanic.normal ?_
            go_wp2_with fail
            exact ⟨⟨m+1,by omega,by go_num,hb9,BC9,hp'⟩,by simp [intOf];omega⟩
          case true =>
            have qb:∀ w,Below W.heap.size W w→Calls Tryz.prog 39 #[.agg cs,.int .i64 (m:Nat)] w (RetLs (c.inAt m) w):=fun w hw=>ref_batch cs jcs c m w ((h.below hw).more hw.size) (by omega) hfew
            have qc:∀ w (A:Option Addr) (cc:Nat),Below W.heap.size W w→Rd w w.heap.size 6 A (c.inAt m).length ((c.inAt m).flatMap Ltr.cl)→Calls Tryz.prog 38 #[.int .i64 x,.slice A (c.inAt m).length cc,.slice A0 (c.jobAt m).bare.length c0,.slice A1 (c.jobAt m).proofs.length c1] w (Ret (.bool (checkBareB x (c.inAt m) (c.jobAt m).bare (c.jobAt m).proofs)) w):=fun w A cc hw hr=>by
              refine ref_checkBare x A A0 A1 _ _ _ cc c0 c1 _ _ _ w hr ((s0.below hw).more hw.size) ((s1.below hw).more hw.size) ?_ ?_ ?_
              · have:=inAt_small h T6.out (k:=m) (by omega);omega
              · have:=a4.1;omega
              · exact Nat.le_trans l1 l1'
            have hbm:c.bareAt m=checkBareB x (c.inAt m) (c.jobAt m).bare (c.jobAt m).proofs:=by rw [hba.out,hem];rfl
            rw [hem] at qe
            cases hcb:checkBareB x (c.inAt m) (c.jobAt m).bare (c.jobAt m).proofs
            all_goals
              rw [hcb] at qc hbm
              have hbm2:=Lib.hid hbm
              clear hem hcb hbm
              go_upto_region 15 with fail
              refine wp_region_schB (f:=17) LC [(0,2),(1,0),(2,1),(3,1),(4,2),(5,1),(6,1),(7,2),(8,2),(9,1),(11,1),(12,2),(13,1),(14,2),(10,0),(15,0),(16,1),(17,3)] ?_
              simp only [pickS,List.getElem?_cons_zero,List.getElem?_cons_succ]
              refine wpSched_r (v:=?v2) (hv:=?h2) ?_;case h2=>(intro w hSw;(first | refine (exec_load rfl rfl hSw).trans ?_ | refine (exec_load rfl rfl hSw.1).trans ?_ | refine (exec_load rfl rfl hSw.2.1).trans ?_ | refine (exec_load rfl rfl hSw.2.2.1).trans ?_ | refine (exec_load rfl rfl hSw.2).trans ?_ | refine (exec_load rfl rfl hSw.2.2).trans ?_);with_reducible rfl)
              refine wpSched_force (fun K hK=>?_)
              go_simp;(first | (go_at_call 13;(with_reducible refine (qe _).mono ?_);rintro e w9 ⟨rfl,b9⟩;have B7:Below w5.heap.size w5 w9:=bCall (bDr (bRefl _)) b9) | (go_at_call 39;(with_reducible refine (qb _ (bCall hb2 B7)).mono ?_);rintro e w8 ⟨A8,c8,rfl,b8,hR8,_,_⟩;have B8:Below w5.heap.size w5 w8:=bCall B7 b8) | (go_at_call 38;(with_reducible refine (qc _ _ _ (bCall hb2 B8) hR8).mono ?_);rintro e w7 ⟨rfl,b7⟩;have B9:Below w5.heap.size w5 w7:=bCall B8 b7) | skip)
              refine shut_go hK LC ?_
              clear hK K
              refine wpSched_t ?_
              refine wpSched_t ?_
              refine wpSched_r ?_
              refine wpSched_t ?_
              refine wpSched_t ?_
              refine wpSched_r ?_
              refine wpSched_r (v:=?v3) (hv:=?h3) ?_;case h3=>(intro w hSw;(first | refine (exec_load rfl rfl hSw).trans ?_ | refine (exec_load rfl rfl hSw.1).trans ?_ | refine (exec_load rfl rfl hSw.2.1).trans ?_ | refine (exec_load rfl rfl hSw.2.2.1).trans ?_ | refine (exec_load rfl rfl hSw.2).trans ?_ | refine (exec_load rfl rfl hSw.2.2).trans ?_);with_reducible rfl)
              refine wpSched_t ?_
              refine wpSched_t ?_
              refine wpSched_r ?_
              refine wpSched_t ?_
              refine wpSched_r ?_
              refine wpSched_force (fun K hK=>?_)
              go_simp;(first | (go_at_call 13;(with_reducible refine (qe _).mono ?_);rintro e w9 ⟨rfl,b9⟩;have B7:Below w5.heap.size w5 w9:=bCall (bDr (bRefl _)) b9) | (go_at_call 39;(with_reducible refine (qb _ (bCall hb2 B7)).mono ?_);rintro e w8 ⟨A8,c8,rfl,b8,hR8,_,_⟩;have B8:Below w5.heap.size w5 w8:=bCall B7 b8) | (go_at_call 38;(with_reducible refine (qc _ _ _ (bCall hb2 B8) hR8).mono ?_);rintro e w7 ⟨rfl,b7⟩;have B9:Below w5.heap.size w5 w7:=bCall B8 b7) | skip)
              refine shut_go hK LC ?_
              clear hK K
              refine wpSched_force (fun K hK=>?_)
              go_simp;(first | (go_at_call 13;(with_reducible refine (qe _).mono ?_);rintro e w9 ⟨rfl,b9⟩;have B7:Below w5.heap.size w5 w9:=bCall (bDr (bRefl _)) b9) | (go_at_call 39;(with_reducible refine (qb _ (bCall hb2 B7)).mono ?_);rintro e w8 ⟨A8,c8,rfl,b8,hR8,_,_⟩;have B8:Below w5.heap.size w5 w8:=bCall B7 b8) | (go_at_call 38;(with_reducible refine (qc _ _ _ (bCall hb2 B8) hR8).mono ?_);rintro e w7 ⟨rfl,b7⟩;have B9:Below w5.heap.size w5 w7:=bCall B8 b7) | skip)
              refine shut_go hK LC ?_
              clear hK K
              refine wpSched_t ?_
              refine wpSched_last ?_
              first | simp only [List.map_nil] | simp only [List.map_cons,List.map_nil]
              have BC9:=BC2.below B9 BC2.lt
              have hb9:=bCall hb2 B9
              clear LC B7 B8 B9 BC2 BJ hb2 hb3 qe qb qc
            · have hbad:Hid (v=false):=by
                show _=_
                rw [Hv1.out,←Bool.not_eq_true,Cs.bares_iff]
                intro hh
                have:=hh m hlt
                rw [hbm2.out] at this;cases this
              go_wp2_with fail
              refine NoPanic.normal ?_
              go_wp2_with fail
              go_ret
              exact ⟨ret_bool hbad.out.symm,hb9⟩
            · have hp':Hid (∀ i,i<m+1→c.bareAt i=true):=by
                intro i hi
                by_cases him:i<m
                · exact hp.out i him
                · obtain rfl:i=m:=by omega
                  exact hbm2.out
              go_wp2_with fail
              refine NoPanic.normal ?_
              go_wp2_with fail
              exact ⟨⟨m+1,by omega,by go_num,hb9,BC9,hp'⟩,by simp [intOf];omega⟩
        · have hx0:Hid (v=true):=by
            show _=_
            rw [Hv1.out]
            exact Cs.bares_iff.2 (fun i hi=>hp.out i (by omega))
          go_wp2_with fail
          go_ret
          exact ⟨ret_bool hx0.out.symm,hb⟩
end Go.Proofs.YtgkpomdegomgiaaGreatDoor

/- frankinglaw55.bare, walked: a case in which nobody works. -/
import Derived.Test.YtoeobcmmafncmaaGreatDoorSbp
import Derived.Test.YtoeobcmmafncmaaGreatDoorSbq
import Derived.Test.YtoeobcmmafncmaaGreatDoorSad
import Derived.Test.YtoeobcmmafncmaaGreatDoorSat
set_option maxRecDepth 1000000
set_option maxHeartbeats 16000000
namespace Go.Proofs.YtoeobcmmafncmaaGreatDoor
open Go.RowKit
def jobC (g1 g2 n:Nat):Array Value:=#[.slice (some ⟨g1,0,none⟩) n n,.slice (some ⟨g2,0,none⟩) n n,.slice none 0 0,.slice none 0 0,.slice none 0 0,.slice none 0 0,.slice none 0 0,.int .i64 0,.int .i64 0,.int .i64 0,.int .i64 0,.int .i64 0,.int .i64 0,.int .i64 0,.int .u8 0,.int .u8 0,.int .u8 0,.int .u8 0,.int .u8 0,.int .u8 0,.int .u8 0,.int .u8 0,.int .u8 0,.int .u8 0,.int .u8 0,.int .u8 0,.int .u8 0,.int .u8 0,.int .u8 0,.int .u8 0,.int .u8 0,.int .u8 0,.int .u8 0,.int .u8 0,.int .u8 0,.int .u8 0,.int .u8 0,.int .u8 0,.int .u8 0,.int .u8 0,.int .u8 0,.int .u8 0,.int .u8 0,.int .u8 0,.int .u8 0,.int .u8 0,.int .i64 0,.int .i64 0,.int .i64 0]
def caseC (A:Option Addr) (n cf:Nat) (kv jv:Value) (place x y z r0 r1 r2:Int):Array Value :=
 #[.int .i64 0,.int .i64 0,.int .i64 0,.slice A n cf,kv,jv,.int .i64 place,.int .i64 x,.int .i64 y,.int .i64 z,.int .i64 r0,.int .i64 r1,.int .i64 r2,.slice none 0 0,.int .i64 0]
def pathA (place x y z r0 r1 r2:Int):Value := .agg #[.int .i64 place,.int .i64 x,.int .i64 y,.int .i64 z,.int .i64 r0,.int .i64 r1,.int .i64 r2,.slice none 0 0]
theorem jobC_one (g1 g2 n:Nat):∀ u∈(jobC g1 g2 n).toList,u.oneCell'=true:=by
 intro u hu
 unfold jobC at hu
 simp only [List.mem_cons,List.not_mem_nil,or_false] at hu
 rcases hu with h | h | h | h | h | h | h | h | h | h | h | h | h | h | h | h | h | h | h | h | h | h | h | h | h | h | h | h | h | h | h | h | h | h | h | h | h | h | h | h | h | h | h | h | h | h | h | h | h <;> (subst h;rfl)
theorem Blk.farT {w:World} {g g2 i:Nat} {t t2:TypeId} {cs cs2:Array Value} (h:Blk w g t cs) (h2:Blk w g2 t2 cs2) (hne:t≠t2) (u:Value):Blk (w.setCell ⟨g2,i,none⟩ u) g t cs:=h.far (by
 intro e
 have e3:g=g2:=e
 subst e3
 unfold Blk at h h2
 rw [h] at h2
 simp at h2
 exact hne h2.2) u
def LastAt (w:World) (Af:Option Addr) (first:List Ltr) (Al:Option Addr) (l:List Ltr):Prop:=(Al=Af∧l=first)∨∃ g,Al=some ⟨g,0,none⟩∧Blk w g 70 (l.flatMap Ltr.cl).toArray
theorem ltrs_len (l:List Ltr):(l.flatMap Ltr.cl).length=l.length*6:=by
 induction l with
 | nil=>rfl
 | cons x l ih=>rw [List.flatMap_cons,List.length_append,ih,Ltr.cl_length,List.length_cons,Nat.succ_mul];omega
theorem LastAt.rd {W w:World} {Af Al:Option Addr} {first l:List Ltr} (h:LastAt w Af first Al l) (hl:l.length=first.length) (hF:Rd W W.heap.size 6 Af first.length (first.flatMap Ltr.cl)) (hb:Below W.heap.size W w):Rd w w.heap.size 6 Al first.length (l.flatMap Ltr.cl):=by
 rcases h with ⟨rfl,rfl⟩ | ⟨g,rfl,hB⟩
 ·exact (hF.below hb).more hb.size
 ·refine ⟨by rw [ltrs_len,hl],fun _=>⟨g,0,rfl,hB.lt,fun j u hu=>?_⟩⟩
  rw [Nat.zero_add,hB.cell]
  simpa using hu
def JobsB (w:World) (ss:List Int) (first:List Ltr) (jcs:List (Array Value)):Prop:=∀ i jc,jcs[i]?=some jc→∃ s g1 g2,ss[i]?=some s∧jc=jobC g1 g2 first.length ∧
 Blk w g1 70 ((bareX s (bareLast (ss.take i) first)).flatMap Ltr.cl).toArray∧Blk w g2 115 ((bareP s (bareLast (ss.take i) first)).flatMap Ltr.cl).toArray
theorem JobsB.below {w w':World} {ss:List Int} {first:List Ltr} {jcs:List (Array Value)} (h:JobsB w ss first jcs) (b:Below w.heap.size w w'):JobsB w' ss first jcs:=fun i jc hj=>by
 obtain ⟨s,g1,g2,h1,h2,h3,h4⟩:=h i jc hj
 exact ⟨s,g1,g2,h1,h2,h3.below b h3.lt,h4.below b h4.lt⟩
theorem JobsB.map {w w':World} {ss:List Int} {first:List Ltr} {jcs:List (Array Value)} (h:JobsB w ss first jcs) (b:∀ g cs,Blk w g 70 cs→Blk w' g 70 cs) (b2:∀ g cs,Blk w g 115 cs→Blk w' g 115 cs):JobsB w' ss first jcs:=fun i jc hj=>by
 obtain ⟨s,g1,g2,h1,h2,h3,h4⟩:=h i jc hj
 exact ⟨s,g1,g2,h1,h2,b _ _ h3,b2 _ _ h4⟩
theorem LastAt.map {w w':World} {Af Al:Option Addr} {first l:List Ltr} (h:LastAt w Af first Al l) (b:∀ g cs,Blk w g 70 cs→Blk w' g 70 cs):LastAt w' Af first Al l:=by
 rcases h with h | ⟨g,h1,h2⟩
 ·exact .inl h
 ·exact .inr ⟨g,h1,b _ _ h2⟩
theorem setRow_same {w:World} {g:Nat} {t:TypeId} {cs:Array Value} (h:Blk w g t cs):w.setRow g cs=w:=by
 unfold World.setRow
 have:(w.heap.modify g fun o=>match o with | .cells _ t fr => .cells cs t fr | o=>o)=w.heap:=by
  apply Array.ext_getElem?
  intro i
  rw [Array.getElem?_modify]
  by_cases hi:g=i
  ·subst hi
   unfold Blk at h
   rw [if_pos rfl,h];rfl
  ·rw [if_neg hi]
 exact congrArg (fun hp=>({ w with heap:=hp } : World)) this
theorem ls_nil {w:World} {B:Nat} : LsAt w B (some (.slice none 0 0)) []:=⟨none,0,rfl,Rd.nil_,Nat.le_refl _,by omega⟩
theorem ds_nil {w:World} {B:Nat} : DsAt w B (some (.slice none 0 0)) []:=⟨none,0,rfl,Rd.nil_,Nat.le_refl _,by omega,fun d hd=>by cases hd⟩
theorem ls_blk {w:World} {g:Nat} {t:TypeId} {l:List Ltr} {n:Nat} (h:Blk w g t (l.flatMap Ltr.cl).toArray) (hl:l.length=n) (hn:n≤1000):LsAt w w.heap.size (some (.slice (some ⟨g,0,none⟩) n n)) l:=by
 subst hl
 refine ⟨_,_,rfl,⟨ltrs_len l,fun _=>⟨g,0,rfl,h.lt,fun j u hu=>?_⟩⟩,Nat.le_refl _,by omega⟩
 rw [Nat.zero_add,h.cell]
 simpa using hu
theorem zero_case (w:World):CaseAt w w.heap.size #[.int .i64 0,.int .i64 0,.int .i64 0,.slice none 0 0,.slice none 0 0,.slice none 0 0,.int .i64 0,.int .i64 0,.int .i64 0,.int .i64 0,.int .i64 0,.int .i64 0,.int .i64 0,.slice none 0 0,.int .i64 0] [] zeroC:=by
 refine ⟨rfl,?_,ls_nil,⟨none,0,rfl,Rd.nil_⟩,⟨none,0,rfl,Rd.nil_⟩,rfl,?_,rfl,rfl,rfl,rfl,rfl,rfl,rfl,⟨none,0,rfl,Rd.nil_⟩,?_⟩
 ·intro v hv
  simp only [List.mem_cons,List.not_mem_nil,or_false] at hv
  rcases hv with h | h | h | h | h | h | h | h | h | h | h | h | h | h | h <;> (subst h;rfl)
 ·intro k jc hk
  simp at hk
 ·intro s hs
  cases hs
theorem two_take {cur j0 j1:Array Value} (h:cur.toList.take (2*49)=[j0,j1].flatMap Array.toList) (h0:j0.size=49) (i:Nat) (u:Value) :
  (cur.setIfInBounds (49+i) u).toList.take (2*49)=[j0,j1.setIfInBounds i u].flatMap Array.toList:=by
 have e1:j0.toList.length=49:=by simpa using h0
 have e:[j0,j1].flatMap Array.toList=j0.toList++j1.toList:=by simp
 rw [Array.toList_setIfInBounds,List.take_set,h,e]
 have e2:[j0,j1.setIfInBounds i u].flatMap Array.toList=j0.toList++j1.toList.set i u:=by simp
 rw [e2,List.set_append_right _ _ (by omega),e1,Nat.add_sub_cancel_left]
theorem zeroH_ok:zeroH.ok:=by
 have z:inI 0:=by unfold inI;omega
 exact ⟨z,z,z,z,z,z,z,⟨by rfl,fun x hx=>by obtain rfl:=List.eq_of_mem_replicate hx;decide⟩,z,z,z⟩
theorem jobC_hand (g1 g2 n:Nat) (i:Nat) (v:Value) (h:zeroH.cl[i]?=some v):(jobC g1 g2 n)[7+i]?=some v:=by
 have hi:i<42:=by have:=(List.getElem?_eq_some_iff.1 h).1;rw [Hd.cl_length zeroH_ok] at this;exact this
 rw [←h]
 have:∀ i,i<42→(jobC g1 g2 n)[7+i]?=zeroH.cl[i]?:=by
  intro i hi
  match i,hi with
  | 0,_ | 1,_ | 2,_ | 3,_ | 4,_ | 5,_ | 6,_ | 7,_ | 8,_ | 9,_ | 10,_ | 11,_ | 12,_ | 13,_ | 14,_ | 15,_ | 16,_ | 17,_ | 18,_ | 19,_ | 20,_ | 21,_ | 22,_ | 23,_ | 24,_ | 25,_ | 26,_ | 27,_ | 28,_ | 29,_ | 30,_ | 31,_ | 32,_ | 33,_ | 34,_ | 35,_ | 36,_ | 37,_ | 38,_ | 39,_ | 40,_ | 41,_=>rfl
  | i+42,h=>omega
 exact this i hi
theorem bare_case2 {w:World} {Af A1 A2:Option Addr} {cf d1 d2:Nat} {ss:List Int} {first:List Ltr} {jcs:List (Array Value)} {place x y z r0 r1 r2:Int} (hcf:first.length≤cf∧cf≤9223372036854775807) (hc:chkL first=0)
  (hF:Rd w w.heap.size 6 Af first.length (first.flatMap Ltr.cl)) (hR1:Rd w w.heap.size 1 A1 ss.length (ints (ss.map pubV))) (hR2:Rd w w.heap.size 49 A2 ss.length (jcs.flatMap Array.toList))
  (hjl:jcs.length=ss.length) (hJB:JobsB w ss first jcs):CaseAt w w.heap.size (caseC Af first.length cf (.slice A1 ss.length d1) (.slice A2 ss.length d2) place x y z r0 r1 r2) jcs (bareCase ss first place ⟨x,y,z⟩ r0 r1 r2):=by
 have h64:=(chkL_ok.1 hc).1
 have e1:(bareCase ss first place ⟨x,y,z⟩ r0 r1 r2).keys.length=ss.length:=by unfold bareCase;simp
 have e2:(bareCase ss first place ⟨x,y,z⟩ r0 r1 r2).jobs.length=ss.length:=by unfold bareCase;exact bareJobs_length _ _
 refine ⟨rfl,fun v hv=>?_,⟨Af,cf,rfl,hF,hcf.1,hcf.2⟩,⟨A1,d1,by rw [e1];rfl,by rw [e1];exact hR1⟩,⟨A2,d2,by rw [e2];rfl,by rw [e2];exact hR2⟩,by rw [e2];exact hjl,?_,rfl,rfl,rfl,rfl,rfl,rfl,rfl,⟨none,0,rfl,Rd.nil_⟩,fun s hs=>by cases hs⟩
 ·unfold caseC at hv
  simp only [List.mem_cons,List.not_mem_nil,or_false] at hv
  rcases hv with h | h | h | h | h | h | h | h | h | h | h | h | h | h | h <;> (subst h;rfl)
 ·intro k jc hk
  obtain ⟨s,g1,g2,hs,rfl,B1,B2⟩:=hJB k jc hk
  rw [bareCase_job hs]
  have hlx:(bareX s (bareLast (ss.take k) first)).length=first.length:=by unfold bareX;rw [List.length_map,bareLast_length]
  have hlp:(bareP s (bareLast (ss.take k) first)).length=first.length:=by unfold bareP;rw [List.length_map,bareLast_length]
  refine ⟨rfl,jobC_one g1 g2 first.length,⟨ls_blk B1 hlx (by omega),ls_blk B2 hlp (by omega),ls_nil,ls_nil,ls_nil,ds_nil,ds_nil⟩,?_,by show 0≤_;omega,by show 0≤_;omega,by show 0≤_;omega⟩
  show (bareX s (bareLast (ss.take k) first)).length≤_
  omega
theorem aw_bare (W:World) (hG:ShaG W):Calls Tryz.prog 8 #[] W (fun r w'=>Below W.heap.size W w'∧∃ csA jcs,r = .returned (.tuple #[.agg csA,.bool true])∧CaseAt w' w'.heap.size csA jcs (cT 1) ∧
  csA[0]?=some (.int .i64 0)∧csA[1]?=some (.int .i64 0)∧csA[2]?=some (.int .i64 0)∧∃ g1 g2 g3 g4,jcs=[jobC g1 g2 1,jobC g3 g4 1]):=by
 obtain ⟨L,hL⟩:∃ L,Hid (L=lT):=⟨_,rfl⟩
 have hs:=Lib.hid (fun (W:World)=>el_seal 16384 1 4 7 1 2 3 W)
 rw [sealT.1,sealT.2,←hL.out] at hs
 unfold Ltr.agg at hs
 go_enter Tryz.func8,Tryz.ntmps8
 go_upto_region 1 with fail
 change Code.wp _ _ _ _ (W.alloc (.cells (caseC none 0 0 (.slice none 0 0) (.slice none 0 0) 0 0 0 0 0 0 0) 33))
 have BC:=Blk.new W 33 (caseC none 0 0 (.slice none 0 0) (.slice none 0 0) 0 0 0 0 0 0 0) _ rfl
 have hb:=bAl (bRefl W) (.cells (caseC none 0 0 (.slice none 0 0) (.slice none 0 0) 0 0 0 0 0 0 0) 33)
 generalize W.alloc (.cells (caseC none 0 0 (.slice none 0 0) (.slice none 0 0) 0 0 0 0 0 0 0) 33)=w1 at *
 go_wp2_with fail
 (with_reducible refine (hs.out _).mono ?_)
 rintro e w2 ⟨rfl,b2⟩
 replace BC:=BC.below b2 BC.lt
 replace hb:=bCall hb b2
 clear b2 hs
 go_upto_region 2 with fail
 have BL:=Blk.new w2 70 #[.int .i64 L.a0,.int .i64 L.b0,.int .i64 L.a1,.int .i64 L.b1,.int .i64 L.a2,.int .i64 L.b2] _ rfl
 replace BC:=BC.alloc (.cells #[.int .i64 L.a0,.int .i64 L.b0,.int .i64 L.a1,.int .i64 L.b1,.int .i64 L.a2,.int .i64 L.b2] 70)
 replace hb:=bAl hb (.cells #[.int .i64 L.a0,.int .i64 L.b0,.int .i64 L.a1,.int .i64 L.b1,.int .i64 L.a2,.int .i64 L.b2] 70)
 generalize w2.alloc (.cells #[.int .i64 L.a0,.int .i64 L.b0,.int .i64 L.a1,.int .i64 L.b1,.int .i64 L.a2,.int .i64 L.b2] 70)=w3 at *
 generalize w2.heap.size=lb at *
 obtain ⟨l0,l1,l2,l3,l4,l5⟩:=BL.six
 have hcL:chkL [L]=0:=by rw [hL.out];exact lT_chk
 have hch:Hid (bareE 3 [L]=0):=by show _=_;unfold bareE;rw [if_pos (by decide)];exact hcL
 have hcL2:chkL (bareX 3 [L])=0:=chkL_bareX hcL
 have hch2:Hid (bareE 4 (bareX 3 [L])=0):=by show _=_;unfold bareE;rw [if_pos (by decide)];exact hcL2
 have hx1:(bareX 3 [L]).length=1:=by unfold bareX;simp
 have hrl:Rd (w3.alloc (.cells #[.int .i64 L.a0,.int .i64 L.b0,.int .i64 L.a1,.int .i64 L.b1,.int .i64 L.a2,.int .i64 L.b2] 70)) (w3.alloc (.cells #[.int .i64 L.a0,.int .i64 L.b0,.int .i64 L.a1,.int .i64 L.b1,.int .i64 L.a2,.int .i64 L.b2] 70)).heap.size 6 (some ⟨w3.heap.size,0,none⟩) 1 ([L].flatMap Ltr.cl):=Rd.new _ ([L].flatMap Ltr.cl) _ 6 1 _ rfl rfl
 have b34:=bAl (bRefl w3) (.cells #[.int .i64 L.a0,.int .i64 L.b0,.int .i64 L.a1,.int .i64 L.b1,.int .i64 L.a2,.int .i64 L.b2] 70)
 have q:=equal_bare 3 (some ⟨w3.heap.size,0,none⟩) 1 1 [L] (w3.alloc (.cells #[.int .i64 L.a0,.int .i64 L.b0,.int .i64 L.a1,.int .i64 L.b1,.int .i64 L.a2,.int .i64 L.b2] 70)) hrl (by decide) (hG.below (bCall hb b34))
 go_wp2_with fail
 (with_reducible refine q.mono ?_)
 rintro e w4 ⟨b4,-,hyes⟩
 obtain ⟨g1,g2,rfl,hg1,hg2,B1,B2⟩:=hyes hch.out
 have b35:=bCall b34 b4
 replace BC:=BC.below b35 BC.lt
 replace BL:=BL.below b35 BL.lt
 replace hb:=bCall hb b35
 clear q hyes b4 b34 b35 hrl l0 l1 l2 l3 l4 l5
 have q:=equal_bare 4 (some ⟨g1,0,none⟩) 1 1 (bareX 3 [L]) w4 (by have:=ls_blk B1 hx1 (by decide);obtain ⟨A,c,e,hr,_⟩:=this;injection e with e;injection e with e1 e2 e3;rw [e1];rw [hx1] at hr;exact hr) (by decide) (hG.below hb)
 simp only [List.length_cons,List.length_nil,Nat.zero_add]
 go_wp2_with fail
 (with_reducible refine q.mono ?_)
 rintro e w5 ⟨b5,-,hyes⟩
 obtain ⟨g3,g4,rfl,hg3,hg4,B3,B4⟩:=hyes hch2.out
 replace BC:=BC.below b5 BC.lt
 replace BL:=BL.below b5 BL.lt
 replace B1:=B1.below b5 B1.lt
 replace B2:=B2.below b5 B2.lt
 replace hb:=bCall hb b5
 clear q hyes b5
 rw [hx1]
 obtain ⟨l0,l1,l2,l3,l4,l5⟩:=BL.six
 go_upto_region 5 with fail
 have hjb:W.heap.size≤w5.heap.size:=hb.size
 change Code.wp _ _ _ _ (w5.alloc (.cells ((jobC g1 g2 1).toList++(jobC g3 g4 1).toList).toArray 55))
 have BJ:=Blk.new w5 55 ((jobC g1 g2 1).toList++(jobC g3 g4 1).toList).toArray _ rfl
 replace BC:=BC.alloc (.cells ((jobC g1 g2 1).toList++(jobC g3 g4 1).toList).toArray 55)
 replace BL:=BL.alloc (.cells ((jobC g1 g2 1).toList++(jobC g3 g4 1).toList).toArray 55)
 replace B1:=B1.alloc (.cells ((jobC g1 g2 1).toList++(jobC g3 g4 1).toList).toArray 55)
 replace B2:=B2.alloc (.cells ((jobC g1 g2 1).toList++(jobC g3 g4 1).toList).toArray 55)
 replace B3:=B3.alloc (.cells ((jobC g1 g2 1).toList++(jobC g3 g4 1).toList).toArray 55)
 replace B4:=B4.alloc (.cells ((jobC g1 g2 1).toList++(jobC g3 g4 1).toList).toArray 55)
 replace hb:=bAl hb (.cells ((jobC g1 g2 1).toList++(jobC g3 g4 1).toList).toArray 55)
 generalize w5.alloc (.cells ((jobC g1 g2 1).toList++(jobC g3 g4 1).toList).toArray 55)=w6 at *
 generalize w5.heap.size=jb at *
 clear l0 l1 l2 l3 l4 l5
 obtain ⟨l0,l1,l2,l3,l4,l5⟩:=BL.six
 apply wp_region_lit
 iterate 24 go_step
 have hone:(caseC (some ⟨w6.heap.size,0,none⟩) 1 1 (.slice (some ⟨w6.heap.size+1,0,none⟩) 2 2) (.slice (some ⟨jb,0,none⟩) 2 2) 0 1 4 7 1 2 3).all (·.oneCell')=true:=by simp [caseC,Value.oneCell']
 have BF:=(Blk.new w6 70 #[.int .i64 L.a0,.int .i64 L.b0,.int .i64 L.a1,.int .i64 L.b1,.int .i64 L.a2,.int .i64 L.b2] _ rfl).alloc (.cells #[.int .i64 64,.int .i64 256] 3)
 have BK:=Blk.new (w6.alloc (.cells #[.int .i64 L.a0,.int .i64 L.b0,.int .i64 L.a1,.int .i64 L.b1,.int .i64 L.a2,.int .i64 L.b2] 70)) 3 #[.int .i64 64,.int .i64 256] (w6.heap.size+1) (by simp)
 have b67:=bAl (bAl (bRefl w6) (.cells #[.int .i64 L.a0,.int .i64 L.b0,.int .i64 L.a1,.int .i64 L.b1,.int .i64 L.a2,.int .i64 L.b2] 70)) (.cells #[.int .i64 64,.int .i64 256] 3)
 replace BC:=BC.below b67 BC.lt
 replace BJ:=BJ.below b67 BJ.lt
 replace B1:=B1.below b67 B1.lt
 replace B2:=B2.below b67 B2.lt
 replace B3:=B3.below b67 B3.lt
 replace B4:=B4.below b67 B4.lt
 replace hb:=bCall hb b67
 clear b67 l0 l1 l2 l3 l4 l5 BL
 generalize (w6.alloc (.cells #[.int .i64 L.a0,.int .i64 L.b0,.int .i64 L.a1,.int .i64 L.b1,.int .i64 L.a2,.int .i64 L.b2] 70)).alloc (.cells #[.int .i64 64,.int .i64 256] 3)=w7 at *
 refine wpList_store_row rfl 33 (.tmp 0) (.tmp 44) rfl W.heap.size (caseC (some ⟨w6.heap.size,0,none⟩) 1 1 (.slice (some ⟨w6.heap.size+1,0,none⟩) 2 2) (.slice (some ⟨jb,0,none⟩) 2 2) 0 1 4 7 1 2 3) rfl rfl 33 _ BC case_info rfl hone ?_
 generalize w6.heap.size=f at *
 replace BJ:=BJ.farRowT BC (by decide) (caseC (some ⟨f,0,none⟩) 1 1 (.slice (some ⟨f+1,0,none⟩) 2 2) (.slice (some ⟨jb,0,none⟩) 2 2) 0 1 4 7 1 2 3)
 replace B1:=B1.farRowT BC (by decide) (caseC (some ⟨f,0,none⟩) 1 1 (.slice (some ⟨f+1,0,none⟩) 2 2) (.slice (some ⟨jb,0,none⟩) 2 2) 0 1 4 7 1 2 3)
 replace B2:=B2.farRowT BC (by decide) (caseC (some ⟨f,0,none⟩) 1 1 (.slice (some ⟨f+1,0,none⟩) 2 2) (.slice (some ⟨jb,0,none⟩) 2 2) 0 1 4 7 1 2 3)
 replace B3:=B3.farRowT BC (by decide) (caseC (some ⟨f,0,none⟩) 1 1 (.slice (some ⟨f+1,0,none⟩) 2 2) (.slice (some ⟨jb,0,none⟩) 2 2) 0 1 4 7 1 2 3)
 replace B4:=B4.farRowT BC (by decide) (caseC (some ⟨f,0,none⟩) 1 1 (.slice (some ⟨f+1,0,none⟩) 2 2) (.slice (some ⟨jb,0,none⟩) 2 2) 0 1 4 7 1 2 3)
 replace BF:=BF.farRowT BC (by decide) (caseC (some ⟨f,0,none⟩) 1 1 (.slice (some ⟨f+1,0,none⟩) 2 2) (.slice (some ⟨jb,0,none⟩) 2 2) 0 1 4 7 1 2 3)
 replace BK:=BK.farRowT BC (by decide) (caseC (some ⟨f,0,none⟩) 1 1 (.slice (some ⟨f+1,0,none⟩) 2 2) (.slice (some ⟨jb,0,none⟩) 2 2) 0 1 4 7 1 2 3)
 replace hb:=below_setRow hb (Nat.le_refl _) (caseC (some ⟨f,0,none⟩) 1 1 (.slice (some ⟨f+1,0,none⟩) 2 2) (.slice (some ⟨jb,0,none⟩) 2 2) 0 1 4 7 1 2 3)
 replace BC:=BC.row (caseC (some ⟨f,0,none⟩) 1 1 (.slice (some ⟨f+1,0,none⟩) 2 2) (.slice (some ⟨jb,0,none⟩) 2 2) 0 1 4 7 1 2 3)
 generalize w7.setRow W.heap.size (caseC (some ⟨f,0,none⟩) 1 1 (.slice (some ⟨f+1,0,none⟩) 2 2) (.slice (some ⟨jb,0,none⟩) 2 2) 0 1 4 7 1 2 3)=w8 at *
 have t0:bareLast (([3,4]:List Int).take 0) [L]=[L]:=by simp only [List.take_zero,bareLast]
 have t1:bareLast (([3,4]:List Int).take 1) [L]=bareX 3 [L]:=by simp only [List.take_succ_cons,List.take_zero,bareLast]
 have hJB:JobsB w8 [3,4] [L] [jobC g1 g2 1,jobC g3 g4 1]:=fun i jc hj=>by
  match i,hj with
  | 0,hj =>
   obtain rfl:_=jc:=by simpa using hj
   exact ⟨3,g1,g2,rfl,rfl,by rw [t0];exact B1,by rw [t0];exact B2⟩
  | 1,hj =>
   obtain rfl:_=jc:=by simpa using hj
   exact ⟨4,g3,g4,rfl,rfl,by rw [t1];exact B3,by rw [t1];exact B4⟩
  | k+2,hj=>simp at hj
 have hkeys:ints (([3,4]:List Int).map pubV)=[.int .i64 64,.int .i64 256]:=by simp only [List.map,pub3,pub4,ints]
 have hrF:Rd w8 w8.heap.size 6 (some ⟨f,0,none⟩) 1 ([L].flatMap Ltr.cl):=⟨rfl,fun _=>⟨f,0,rfl,BF.lt,fun j u hu=>by rw [Nat.zero_add,BF.cell];simpa [Ltr.cl] using hu⟩⟩
 have hrK:Rd w8 w8.heap.size 1 (some ⟨f+1,0,none⟩) 2 (ints (([3,4]:List Int).map pubV)):=by
  rw [hkeys]
  exact ⟨rfl,fun _=>⟨f+1,0,rfl,BK.lt,fun j u hu=>by rw [Nat.zero_add,BK.cell];simpa using hu⟩⟩
 have hrJ:Rd w8 w8.heap.size 49 (some ⟨jb,0,none⟩) 2 ([jobC g1 g2 1,jobC g3 g4 1].flatMap Array.toList):=⟨rfl,fun _=>⟨jb,0,rfl,BJ.lt,fun j u hu=>by rw [Nat.zero_add,BJ.cell];simpa using hu⟩⟩
 have CA0:=bare_case2 (w:=w8) (cf:=1) (d1:=2) (d2:=2) (ss:=[3,4]) (first:=[L]) (place:=0) (x:=1) (y:=4) (z:=7) (r0:=1) (r1:=2) (r2:=3) ⟨by show 1≤1;omega,by omega⟩ hcL hrF hrK hrJ rfl hJB
 rw [hL.out] at CA0
 clear t0 t1 hJB hrF hrK hrJ
 clear BF BK BJ B1 B2 B3 B4
 go_upto_region 6 with fail
 apply wp_region_lit
 refine wpList_load_row rfl 33 (.tmp 0) rfl W.heap.size rfl 33 (caseC (some ⟨f,0,none⟩) 1 1 (.slice (some ⟨f+1,0,none⟩) 2 2) (.slice (some ⟨jb,0,none⟩) 2 2) 0 1 4 7 1 2 3) (0,0) _ BC Tryz.underlying33 rfl case_info ?_
 iterate 26 go_step
 refine wpList_store_row (by rfl) 33 (.tmp 0) (.tmp 45) (by rfl) W.heap.size (caseC (some ⟨f,0,none⟩) 1 1 (.slice (some ⟨f+1,0,none⟩) 2 2) (.slice (some ⟨jb,0,none⟩) 2 2) 0 1 4 7 1 2 3) (by rfl) (by rfl) 33 _ BC case_info rfl hone ?_
 rw [setRow_same BC]
 go_wp2_with fail
 exact bodyPost_ret (v := .tuple #[.agg (caseC (some ⟨f,0,none⟩) 1 1 (.slice (some ⟨f+1,0,none⟩) 2 2) (.slice (some ⟨jb,0,none⟩) 2 2) 0 1 4 7 1 2 3),.bool true]) (by
  have m0:w8.cell? ⟨W.heap.size,0,none⟩=some (.int .i64 0):=BC.cell 0
  have m1:w8.cell? ⟨W.heap.size,1,none⟩=some (.int .i64 0):=BC.cell 1
  have m2:w8.cell? ⟨W.heap.size,2,none⟩=some (.int .i64 0):=BC.cell 2
  have m3:w8.cell? ⟨W.heap.size,3,none⟩=some (.slice (some ⟨f,0,none⟩) 1 1):=BC.cell 3
  have m4:w8.cell? ⟨W.heap.size,4,none⟩=some (.slice (some ⟨f+1,0,none⟩) 2 2):=BC.cell 4
  have m5:w8.cell? ⟨W.heap.size,5,none⟩=some (.slice (some ⟨jb,0,none⟩) 2 2):=BC.cell 5
  have m6:w8.cell? ⟨W.heap.size,6,none⟩=some (.int .i64 0):=BC.cell 6
  have m7:w8.cell? ⟨W.heap.size,7,none⟩=some (.int .i64 1):=BC.cell 7
  have m8:w8.cell? ⟨W.heap.size,8,none⟩=some (.int .i64 4):=BC.cell 8
  have m9:w8.cell? ⟨W.heap.size,9,none⟩=some (.int .i64 7):=BC.cell 9
  have m10:w8.cell? ⟨W.heap.size,10,none⟩=some (.int .i64 1):=BC.cell 10
  have m11:w8.cell? ⟨W.heap.size,11,none⟩=some (.int .i64 2):=BC.cell 11
  have m12:w8.cell? ⟨W.heap.size,12,none⟩=some (.int .i64 3):=BC.cell 12
  have m13:w8.cell? ⟨W.heap.size,13,none⟩=some (.slice none 0 0):=BC.cell 13
  have m14:w8.cell? ⟨W.heap.size,14,none⟩=some (.int .i64 0):=BC.cell 14
  simp [results,Tryz.results8,go_sem,caseC,m0,m1,m2,m3,m4,m5,m6,m7,m8,m9,m10,m11,m12,m13,m14]) rfl ⟨hb,_,_,rfl,CA0,rfl,rfl,rfl,g1,g2,g3,g4,rfl⟩
end Go.Proofs.YtoeobcmmafncmaaGreatDoor

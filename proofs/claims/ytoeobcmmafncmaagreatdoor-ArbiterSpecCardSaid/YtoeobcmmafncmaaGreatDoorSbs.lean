/- arbiter.Judge; walked. -/
import Derived.Test.YtoeobcmmafncmaaGreatDoorSbi
import Derived.Test.YtoeobcmmafncmaaGreatDoorSbq
set_option maxRecDepth 1000000
set_option maxHeartbeats 16000000
namespace Go.Proofs.YtoeobcmmafncmaaGreatDoor
open Go.RowKit
attribute [local go_sem] Oper.semAt_some
def codeRet:Code→Bool
 | .ret=>true
 | _=>false
def judV (R:Int×Int×Int):Value := .tuple #[.agg #[.int .i64 R.1,.int .i64 R.2.1],.int .i64 R.2.2]
theorem ret_judV {R:Int×Int×Int} {a b e:Int} (h:R=(a,b,e)):Ending.returned (.tuple #[.agg #[.int .i64 a,.int .i64 b],.int .i64 e]) = .returned (judV R):=by rw [h];rfl
def setV (w:World) (s:Nat) (a b e:Value):World:=((w.setCell ⟨s+1+1,0,none⟩ a).setCell ⟨s+1+1,1,none⟩ b).setCell ⟨s+1+1+1,0,none⟩ e
theorem setV_blks {w:World} {s:Nat} {a0 b0 e0:Value} (B2:Blk w (s+1+1) 37 #[a0,b0]) (B3:Blk w (s+1+1+1) 38 #[e0]) (a b e:Value) :
  Blk (setV w s a b e) (s+1+1) 37 #[a,b]∧Blk (setV w s a b e) (s+1+1+1) 38 #[e]:=by
 unfold setV
 exact ⟨((B2.set_ 0 a).set_ 1 b).far (by show s+1+1≠s+1+1+1;omega) e,((B3.far (by show s+1+1+1≠s+1+1;omega) a).far (by show s+1+1+1≠s+1+1;omega) b).set1 e⟩
theorem setV_below {W w:World} (h:Below W.heap.size W w) (a b e:Value):Below W.heap.size W (setV w W.heap.size a b e) :=
 bSet (bSet (bSet h (p:=⟨W.heap.size+1+1,0,none⟩) (by show W.heap.size≤W.heap.size+1+1;omega) a) (p:=⟨W.heap.size+1+1,1,none⟩) (by show W.heap.size≤W.heap.size+1+1;omega) b) (p:=⟨W.heap.size+1+1+1,0,none⟩) (by show W.heap.size≤W.heap.size+1+1+1;omega) e
theorem setV_mark {w:World} {s D:Nat} {a0 b0 e0:Value} (B2:Blk w (s+1+1) 37 #[a0,b0]) (B3:Blk w (s+1+1+1) 38 #[e0]) (hd:w.heap[D]?=some (.deferred (some []))) (a b e:Value) :
  (setV w s a b e).heap[D]?=some (.deferred (some [])):=by
 unfold setV
 rw [Below.heap_setCell _ _ _ _ (fun x=>ne_mark B3 hd rfl x.symm),Below.heap_setCell _ _ _ _ (fun x=>ne_mark B2 hd rfl x.symm),Below.heap_setCell _ _ _ _ (fun x=>ne_mark B2 hd rfl x.symm)]
 exact hd
theorem Blk.two_ {w:World} {b:Nat} {t:TypeId} {x y:Value} (h:Blk w b t #[x,y]):w.cell? ⟨b,0,none⟩=some x∧w.cell? ⟨b,1,none⟩=some y∧w.frozen? ⟨b,0,none⟩=false∧w.frozen? ⟨b,1,none⟩=false:=⟨h.cell 0,h.cell 1,h.frozen 0,h.frozen 1⟩
theorem ar_judge (a : Ca) (l : List Int) (Al : Option Addr) (cl : Nat) (cs : Array Value) (jcs : List (Array Value)) (W : World) (h : CaAt W W.heap.size cs jcs a) (hl : Rd W W.heap.size 1 Al l.length (ints l)) (hln : l.length ≤ 1000) (hlc : l.length ≤ cl) (hlc2 : cl ≤ 9223372036854775807) (hG : ShaG W) :
  Calls Tryz.prog 6 #[.slice Al l.length cl,.agg cs] W (Ret (judV (a.judge l)) W):=by
 refine calls_of_wp_dm Tryz.func6 rfl ?_
 simp only [Tryz.ntmps6,List.size_toArray,List.length_cons,List.length_nil,Nat.reduceAdd,Nat.reduceSub,Array.replicate_succ,Array.replicate_zero,List.push_toArray,List.append_toArray,List.nil_append,List.cons_append]
 obtain ⟨AK,ck,hk4,hKd⟩:=h.c.keys
 obtain ⟨AJ,cj,hk5,hJd⟩:=h.c.jobs
 obtain ⟨R,hR⟩:∃ R,R=a.judge l:=⟨_,rfl⟩
 rw [←hR]
 obtain ⟨w1,hw1⟩:∃ w1,w1=(((W.alloc (.cells #[.slice Al l.length cl] 22)).alloc (.cells cs 33)).alloc (.cells #[.int .i64 0,.int .i64 0] 37)).alloc (.cells #[.int .i64 0] 38):=⟨_,rfl⟩
 have hb1:Below W.heap.size W w1:=by rw [hw1];exact bAl (bAl (bAl (bAl (bRefl W) _) _) _) _
 have B0:Blk w1 W.heap.size 22 #[.slice Al l.length cl]:=by rw [hw1];exact (((Blk.new W _ _ _ rfl).alloc _).alloc _).alloc _
 have B1:Blk w1 (W.heap.size+1) 33 cs:=by rw [hw1];exact ((Blk.new _ _ _ _ (by simp)).alloc _).alloc _
 have B2:Blk w1 (W.heap.size+1+1) 37 #[.int .i64 0,.int .i64 0]:=by rw [hw1];exact (Blk.new _ _ _ _ (by simp)).alloc _
 have B3:Blk w1 (W.heap.size+1+1+1) 38 #[.int .i64 0]:=by rw [hw1];exact Blk.new _ _ _ _ (by simp)
 go_upto_region 1 with fail
 rw [←hw1]
 clear hw1
 go_step3
 go_upto_region 1 with fail
 have b0:w1.cell? ⟨W.heap.size,0,none⟩=some (.slice Al l.length cl):=B0.cell 0
 have y4:w1.cell? ⟨W.heap.size+1,4,none⟩=some (.slice AK a.c.keys.length ck):=(B1.cell 4).trans hk4
 obtain ⟨x2,x2b,z2,z2b⟩:=B2.two_
 obtain ⟨x3,z3⟩:=B3.one_
 by_cases hkl:l.length=a.c.keys.length
 ·have q := ar_line Al cl l w1 ((hl.below hb1).more hb1.size) hlc hlc2
  rw [←hkl] at y4
  cases hlb:lineB l
  ·have hv:Hid (R=(0,0,560)):=Lib.hid (by rw [hR];exact judge_bad (by rw [hlb];simp))
   rw [hlb] at q
   clear hR hlb
   replace hkl:=Lib.hid hkl
   go_wp2_with fail
   (with_reducible refine q.mono ?_)
   rintro e w2 ⟨rfl,rfl⟩
   clear q
   obtain ⟨e2,e3⟩:=setV_blks B2 B3 (.int .i64 0) (.int .i64 0) (.int .i64 560)
   have hb3:=setV_below hb1 (.int .i64 0) (.int .i64 0) (.int .i64 560)
   go_wp2_with fail
   have f2:=e2.two_.1
   have f2b:=e2.two_.2.1
   have f3:=e3.one_.1
   unfold setV at f2 f2b f3
   exact ⟨.tuple #[.agg #[.int .i64 0,.int .i64 0],.int .i64 560],by simp [results,Tryz.results6,go_sem,f2,f2b,f3],ret_judV hv.out,hb3⟩
  ·rw [hlb] at q
   replace hkl:=Lib.hid hkl
   replace hlb:=Lib.hid hlb
   go_wp2_with fail
   (with_reducible refine q.mono ?_)
   rintro e w2 ⟨rfl,rfl⟩
   clear q b0 y4 x2 x2b z2 z2b x3 z3
   go_upto_region 3 with fail
   apply wp_region_lit
   refine wpList_load_row rfl 33 (.tmp 3) rfl (W.heap.size+1) rfl 33 cs (0,0) _ B1 Tryz.underlying33 rfl (by rw [h.c.size];exact case_info) ?_
   have q:=pa_check cs jcs a.c w1 ((h.c.below hb1).more hb1.size) (hG.below hb1)
   obtain ⟨k0,hk0⟩:∃ x,Hid (a.c.check.1=x):=⟨_,Lib.hid rfl⟩
   obtain ⟨why,hwy⟩:∃ x,Hid (a.c.check.2.1=x):=⟨_,Lib.hid rfl⟩
   obtain ⟨e0,he0⟩:∃ x,Hid (a.c.check.2.2=x):=⟨_,Lib.hid rfl⟩
   rw [hk0.out,hwy.out,he0.out] at q
   replace hR:=Lib.hid hR
   go_wp2_with fail
   (with_reducible refine q.mono ?_)
   rintro e w2 ⟨rfl,b2⟩
   clear q
   replace B0:=B0.below b2 B0.lt
   replace B1:=B1.below b2 B1.lt
   replace B2:=B2.below b2 B2.lt
   replace B3:=B3.below b2 B3.lt
   replace hb1:=bCall hb1 b2
   have hs2:W.heap.size+1+1+1<w2.heap.size:=B3.lt
   clear b2
   obtain ⟨x3,z3⟩:=B3.one_
   go_upto_region 4 with fail
   clear x3 z3
   replace B0:=(B0.far (p:=⟨W.heap.size+1+1+1,0,none⟩) (by show W.heap.size≠W.heap.size+1+1+1;omega) (.int .i64 e0)).alloc (.cells #[.int .i64 k0] 3)
   replace B1:=(B1.far (p:=⟨W.heap.size+1+1+1,0,none⟩) (by show W.heap.size+1≠W.heap.size+1+1+1;omega) (.int .i64 e0)).alloc (.cells #[.int .i64 k0] 3)
   replace B2:=(B2.far (p:=⟨W.heap.size+1+1+1,0,none⟩) (by show W.heap.size+1+1≠W.heap.size+1+1+1;omega) (.int .i64 e0)).alloc (.cells #[.int .i64 k0] 3)
   replace B3:=(B3.set1 (.int .i64 e0)).alloc (.cells #[.int .i64 k0] 3)
   have BK:=Blk.new (w2.setCell ⟨W.heap.size+1+1+1,0,none⟩ (.int .i64 e0)) 3 #[.int .i64 k0] w2.heap.size (by simp)
   replace hb1:=bAl (bSet hb1 (p:=⟨W.heap.size+1+1+1,0,none⟩) (by show W.heap.size≤W.heap.size+1+1+1;omega) (.int .i64 e0)) (.cells #[.int .i64 k0] 3)
   generalize (w2.setCell ⟨W.heap.size+1+1+1,0,none⟩ (.int .i64 e0)).alloc (.cells #[.int .i64 k0] 3)=w3 at *
   generalize w2.heap.size=kb at *
   obtain ⟨x2,x2b,z2,z2b⟩:=B2.two_
   obtain ⟨x3,z3⟩:=B3.one_
   obtain ⟨xk,zk⟩:=BK.one_
   by_cases hee:e0=0
   ·subst hee
    have t1:Hid (why=1→R=(-1,1,0)):=Lib.hid (fun hh=>by rw [hR.out];exact judge_send hlb.out hkl.out he0.out (by rw [hwy.out,hh]))
    by_cases hw1:why=1
    ·have hv:Hid (R=(-1,1,0)):=Lib.hid (t1.out hw1)
     subst hw1
     clear t1
     obtain ⟨e2,e3⟩:=setV_blks B2 B3 (.int .i64 (-1)) (.int .i64 1) (.int .i64 0)
     have hb3:=setV_below hb1 (.int .i64 (-1)) (.int .i64 1) (.int .i64 0)
     go_wp2_with fail
     have f2:=e2.two_.1
     have f2b:=e2.two_.2.1
     have f3:=e3.one_.1
     unfold setV at f2 f2b f3
     exact ⟨.tuple #[.agg #[.int .i64 (-1),.int .i64 1],.int .i64 0],by simp [results,Tryz.results6,go_sem,f2,f2b,f3],ret_judV hv.out,hb3⟩
    ·clear t1
     have t1:(why==1)=false:=by rw [beq_eq_false_iff_ne];exact hw1
     have hne1:Hid (a.c.check.2.1≠1):=Lib.hid (by rw [hwy.out];exact hw1)
     clear hw1
     have hmiss:=Lib.hid (fun hb=>judge_miss hlb.out hkl.out he0.out hne1.out hb)
     have hhit:Hid (∀ k,k<a.lim l→a.wrong l k=true→(∀ j,j<k→a.wrong l j=false)→R=((k:Int),2,0)):=Lib.hid (fun k h1 h2 h3=>by rw [hR.out];exact judge_hit hlb.out hkl.out he0.out hne1.out h1 h2 h3)
     have hjl:a.c.jobs.length=l.length:=by
      obtain ⟨g1,g2,g3⟩:=check_ok he0.out
      unfold Cs.formed formedB at g1
      simp only [Bool.and_eq_true,decide_eq_true_eq] at g1
      have:=g1.2.2.1
      have:=hkl.out
      omega
     rw [hjl] at hk5 hJd
     have hjl2:jcs.length=l.length:=h.c.jlen.trans hjl
     replace hjl:=Lib.hid hjl
     by_cases hw0:why=0
     have t0:(why==0)=true:=by rw [hw0];rfl
     have hlim:Hid (l.length=a.lim l):=Lib.hid (by unfold Ca.lim;rw [if_pos (by rw [hwy.out];exact hw0)])
     have hend:Hid ((∀ j,j<a.lim l→a.wrong l j=false)→R=(-1,0,0)):=Lib.hid (fun hb=>by rw [hR.out,hmiss.out hb,if_pos (by rw [hwy.out];exact hw0)])
     have hle:l.length≤l.length:=Nat.le_refl _
     clear hw0 hmiss
     have b0:w3.cell? ⟨W.heap.size,0,none⟩=some (.slice Al l.length cl):=B0.cell 0
     go_upto_region 10 with fail
     go_step3
     go_upto_region 10 with fail
     clear b0 x2 x2b z2 z2b x3 z3 xk zk
     replace B0:=B0.far (p:=⟨kb,0,none⟩) (by show W.heap.size≠kb;omega) (.int .i64 l.length)
     replace B1:=B1.far (p:=⟨kb,0,none⟩) (by show W.heap.size+1≠kb;omega) (.int .i64 l.length)
     replace B2:=B2.far (p:=⟨kb,0,none⟩) (by show W.heap.size+1+1≠kb;omega) (.int .i64 l.length)
     replace B3:=B3.far (p:=⟨kb,0,none⟩) (by show W.heap.size+1+1+1≠kb;omega) (.int .i64 l.length)
     replace BK:=BK.set1 (.int .i64 l.length)
     replace hb1:=bSet hb1 (p:=⟨kb,0,none⟩) (by show W.heap.size≤kb;omega) (.int .i64 l.length)
     generalize w3.setCell ⟨kb,0,none⟩ (.int .i64 l.length)=wc at *
     obtain ⟨kk,hkk⟩:∃ kk,kk=l.length:=⟨_,rfl⟩
     replace BK:Blk wc kb 3 #[.int .i64 (kk:Nat)]:=by rw [hkk];exact BK
     replace hlim:Hid (kk=a.lim l):=Lib.hid (by rw [hkk];exact hlim.out)
     replace hle:kk≤l.length:=by rw [hkk];exact hle
     replace hkk:=Lib.hid hkk
     rotate_left 1
     have t0:(why==0)=false:=by rw [beq_eq_false_iff_ne];exact hw0
     obtain ⟨kk,hm,hml⟩:=check_leg he0.out (by rw [hwy.out];exact hw0)
     rw [hk0.out] at hm
     subst hm
     have hlim:Hid (kk=a.lim l):=Lib.hid (by unfold Ca.lim;rw [if_neg (by rw [hwy.out];exact hw0),hk0.out];rfl)
     have hend:Hid ((∀ j,j<a.lim l→a.wrong l j=false)→R=((kk:Int),why,0)):=Lib.hid (fun hb=>by rw [hR.out,hmiss.out hb,if_neg (by rw [hwy.out];exact hw0),hk0.out,hwy.out])
     have hle:kk≤l.length:=by have:=hjl.out;omega
     clear hw0 hmiss hml
     go_upto_region 10 with fail
     go_step3
     go_upto_region 10 with fail
     clear x2 x2b z2 z2b x3 z3 xk zk
     generalize w3=wc at *
     all_goals
      have y5:wc.cell? ⟨W.heap.size+1,5,none⟩=some (.slice AJ l.length cj):=(B1.cell 5).trans hk5
      have q:=worked_any AJ l.length cj wc
      go_wp2_with fail
      (with_reducible refine q.mono ?_)
      rintro e w4 ⟨rfl,rfl⟩
      clear q y5
      have BP:=Blk.new wc 26 #[.slice AJ l.length cj] _ rfl
      replace hb1:=bAl hb1 (.cells #[.slice AJ l.length cj] 26)
      replace B0:=B0.alloc (.cells #[.slice AJ l.length cj] 26)
      replace B1:=B1.alloc (.cells #[.slice AJ l.length cj] 26)
      replace B2:=B2.alloc (.cells #[.slice AJ l.length cj] 26)
      replace B3:=B3.alloc (.cells #[.slice AJ l.length cj] 26)
      replace BK:=BK.alloc (.cells #[.slice AJ l.length cj] 26)
      generalize wc.alloc (.cells #[.slice AJ l.length cj] 26)=w4 at *
      generalize wc.heap.size=bp at *
      go_wp2_with fail
      refine wp_rangeC 2 (gf:=28) (lb:=#[.pointer (some ⟨bp,0,none⟩)]) rfl (enters_of Tryz.func28 (by kernel_rfl) rfl)
       (fun _=>True) (wk_stops bp W.heap.size l.length cj AJ jcs a.c.em (fun _=>True) w4 trivial (fun _ _=>trivial) hb1.size BP (hJd.below hb1) h.c.jobC hjl2 hln) (fun _=>rfl) W hb1
       (fun _=>[(W.heap.size,22,#[.slice Al l.length cl]),(W.heap.size+1,33,cs),(W.heap.size+1+1,37,#[.int .i64 0,.int .i64 0]),(W.heap.size+1+1+1,38,#[.int .i64 0]),(kb,3,#[.int .i64 (kk:Nat)])])
       (fun pre=>∀ x∈pre,x.val<kk∧a.right l x.val=true)
       (fun co pre=>[(W.heap.size+1+1,37,if codeRet co then #[.int .i64 (lastV pre:Nat),.int .i64 2] else #[.int .i64 0,.int .i64 0]),(W.heap.size+1+1+1,38,#[.int .i64 0]),(kb,3,#[.int .i64 (kk:Nat)])])
       (fun co pre=>(∀ x∈pre.dropLast,x.val<kk∧a.right l x.val=true)∧((co = .ret∧lastV pre<kk∧a.right l (lastV pre)=false)∨(co = .exit 0∧kk≤lastV pre))) ⟨B0,B1,B2,B3,BK,trivial⟩ (fun x hx=>by cases hx) ?round ?done ?stop
      case round =>
       clear B0 B1 B2 B3 BK BP
       rintro L0 pre x Wc hlen hbc ⟨B0,B1,B2,B3,BK,_⟩ hRp
       dsimp only at B0 B1 B2 B3 BK
       dsimp only [wkE]
       obtain ⟨jc,hjc⟩:∃ jc,jcs[x.val]?=some jc:=⟨_,List.getElem?_eq_getElem (by rw [hjl2];exact x.isLt)⟩
       have hgd:jcs.getD x.val #[]=jc:=by rw [List.getD_eq_getElem?_getD,hjc];rfl
       obtain ⟨hXs,hXo,_⟩:=h.c.job x.val jc hjc
       have hX1:jc.all (·.oneCell')=true:=by have:=all_oneCell_toArray hXo;simpa using this
       rw [hgd]
       gi_upto_region 12 with fail
       apply wpIn_region_lit
       iterate 3 gi_step
       refine wpListIn_store rfl rfl rfl rfl (store_fresh (by rw [hXs];exact job_info) (by rw [hXs];rfl) hX1) ?_
       refine wpListIn_nil ?_
       have BX:=Blk.new Wc 55 jc _ rfl
       have hbx:=bAl (bRefl Wc) (.cells jc 55)
       refine ⟨[(Wc.heap.size,55,jc)],KeepsOthers.below hbx,KeepsC.below hbx,bCall hbc hbx,⟨BX,B0.below hbx B0.lt,B1.below hbx B1.lt,B2.below hbx B2.lt,B3.below hbx B3.lt,BK.below hbx BK.lt,trivial⟩,?_⟩
       clear B0 B1 B2 B3 BK BX hbx
       rintro L W2 hb2 ⟨BX,B0,B1,B2,B3,BK,_⟩
       dsimp only at BX B0 B1 B2 B3 BK
       generalize Wc.heap.size=xb at *
       obtain ⟨xk,_⟩:=BK.one_
       by_cases hlt:x.val<kk
       ·have i0:¬((kk:Int)≤(x.val:Int)):=by omega
        have b0:W2.cell? ⟨W.heap.size,0,none⟩=some (.slice Al l.length cl):=B0.cell 0
        have LC:=load_blk B1 Tryz.underlying33 rfl (by rw [h.c.size];exact case_info)
        have LX:=load_blk BX Tryz.underlying55 rfl (by rw [hXs];exact job_info)
        have q:=CaAt.signed ((h.below hb2).more hb2.size) (hG.below hb2) (cl:=cl) ((hl.below hb2).more hb2.size) hln hkl.out.symm hjl.out x.isLt
        rw [hgd] at q
        gi_upto_region 14 with fail
        apply wpIn_region_lit
        iterate 3 gi_step
        refine wpListIn_load rfl rfl rfl LC ?_
        iterate 3 gi_step
        refine wpListIn_load rfl rfl rfl LX ?_
        cases hr:a.right l x.val
        ·rw [hr] at q
         gi_wp2_with fail
         refine ⟨trivial,?_⟩
         (with_reducible refine (inR L q).mono ?_)
         rintro e w6 ⟨rfl,b6⟩
         clear q b0 LC LX xk
         replace B2:=B2.below b6 B2.lt
         replace B3:=B3.below b6 B3.lt
         replace BK:=BK.below b6 BK.lt
         have hb6:=bCall hb2 b6
         obtain ⟨x2,x2b,z2,z2b⟩:=B2.two_
         obtain ⟨x3,z3⟩:=B3.one_
         obtain ⟨e2,e3⟩:=setV_blks B2 B3 (.int .i64 (x.val:Nat)) (.int .i64 2) (.int .i64 0)
         have hb8:=setV_below hb6 (.int .i64 (x.val:Nat)) (.int .i64 2) (.int .i64 0)
         gi_wp2_with fail
         refine ⟨(KeepsOthers.below b6).trans ((KeepsOthers.setCell _ _ _).trans ((KeepsOthers.setCell _ _ _).trans (KeepsOthers.setCell _ _ _))),hb8,⟨?_,e3,((BK.far (by show kb≠W.heap.size+1+1;omega) _).far (by show kb≠W.heap.size+1+1;omega) _).far (by show kb≠W.heap.size+1+1+1;omega) _,trivial⟩,by rw [List.dropLast_concat];exact hRp,.inl ⟨rfl,by rw [lastV_snoc];exact hlt,by rw [lastV_snoc];exact hr⟩⟩
         show Blk _ _ _ #[.int .i64 (lastV (pre++[x]):Nat),.int .i64 2]
         rw [lastV_snoc]
         exact e2
        ·rw [hr] at q
         gi_wp2_with fail
         refine ⟨trivial,?_⟩
         (with_reducible refine (inR L q).mono ?_)
         rintro e w6 ⟨rfl,b6⟩
         clear q b0 LC LX xk
         gi_wp2_with fail
         refine ⟨KeepsOthers.below b6,KeepsC.below b6,bCall hb2 b6,⟨B0.below b6 B0.lt,B1.below b6 B1.lt,B2.below b6 B2.lt,B3.below b6 B3.lt,BK.below b6 BK.lt,trivial⟩,fun y hy=>?_⟩
         rcases List.mem_append.1 hy with hy | hy
         ·exact hRp y hy
         ·obtain rfl:y=x:=by simpa using hy
          exact ⟨hlt,hr⟩
       ·have i0:(kk:Int)≤(x.val:Int):=by omega
        gi_wp2_with fail
        exact ⟨KeepsOthers.refl _,hb2,⟨B2,B3,BK,trivial⟩,by rw [List.dropLast_concat];exact hRp,.inr ⟨rfl,by rw [lastV_snoc];omega⟩⟩
      case done =>
       clear B0 B1 B2 B3 BK BP
       rintro D xs Wc hD hS hbc ⟨B0,B1,B2,B3,BK,_⟩ hRp hd
       dsimp only at B0 B1 B2 B3 BK
       have hv:=Lib.hid (hend.out (fun j hj=>wk_right (em:=a.c.em) (R:=a.right l) (Nat.le_refl _) (by rw [←hS];exact fun x hx=>(hRp x hx).2) j (by rw [←hlim.out] at hj;omega)))
       have hD':W.heap.size≤D:=hD
       clear hS hRp hend hhit
       obtain ⟨x2,x2b,z2,z2b⟩:=B2.two_
       obtain ⟨x3,z3⟩:=B3.one_
       obtain ⟨xk,zk⟩:=BK.one_
       first
        | (obtain ⟨e2, e3⟩ := setV_blks B2 B3 (.int .i64 (-1)) (.int .i64 0) (.int .i64 0)
           have hb3:=setV_below hbc (.int .i64 (-1)) (.int .i64 0) (.int .i64 0)
           have hm:=setV_mark B2 B3 hd (.int .i64 (-1)) (.int .i64 0) (.int .i64 0)
           have e2':=e2.put (o' := .deferred none) hm rfl
           have e3':=e3.put (o' := .deferred none) hm rfl
           go_wp2_with fail
           have f2:=e2'.two_.1
           have f2b:=e2'.two_.2.1
           have f3:=e3'.one_.1
           unfold setV at f2 f2b f3 hm
           refine leavesM_mark (by simp) hm ?_
           exact ⟨.tuple #[.agg #[.int .i64 (-1),.int .i64 0],.int .i64 0],by simp [results,Tryz.results6,go_sem,f2,f2b,f3],ret_judV hv.out,bPut hb3 hD' _⟩)
        | (obtain ⟨e2, e3⟩ := setV_blks B2 B3 (.int .i64 (kk : Nat)) (.int .i64 why) (.int .i64 0)
           have hb3:=setV_below hbc (.int .i64 (kk:Nat)) (.int .i64 why) (.int .i64 0)
           have hm:=setV_mark B2 B3 hd (.int .i64 (kk:Nat)) (.int .i64 why) (.int .i64 0)
           have e2':=e2.put (o' := .deferred none) hm rfl
           have e3':=e3.put (o' := .deferred none) hm rfl
           go_wp2_with fail
           have f2:=e2'.two_.1
           have f2b:=e2'.two_.2.1
           have f3:=e3'.one_.1
           unfold setV at f2 f2b f3 hm
           refine leavesM_mark (by simp) hm ?_
           exact ⟨.tuple #[.agg #[.int .i64 (kk:Nat),.int .i64 why],.int .i64 0],by simp [results,Tryz.results6,go_sem,f2,f2b,f3],ret_judV hv.out,bPut hb3 hD' _⟩)
      case stop =>
       clear B0 B1 B2 B3 BK BP
       rintro D co pre Wc hD ⟨k,hk,hek,hpre⟩ hbc ⟨B2,B3,BK,_⟩ ⟨hR1,hR2⟩ hd
       dsimp only at B2 B3 BK
       have hD':W.heap.size≤D:=hD
       obtain ⟨g1,g2⟩:=wk_last (em:=a.c.em) hk hek
       rw [hpre] at hR1 hR2 B2
       rw [g1] at hR1
       rw [g2] at hR2 B2
       have hw:=wk_right (em:=a.c.em) (R:=a.right l) (Nat.le_of_lt hk) (fun x hx=>(hR1 x hx).2)
       rcases hR2 with ⟨rfl,h1,h2⟩ | ⟨rfl,h1⟩
       ·have hv:=Lib.hid (hhit.out k (by rw [←hlim.out];exact h1) (by show (!a.c.em k && !a.right l k)=true;rw [hek,h2];rfl) hw)
        replace B2:Blk Wc (W.heap.size+1+1) 37 #[.int .i64 (k:Nat),.int .i64 2]:=B2
        have e2':=B2.put (o' := .deferred none) hd rfl
        have e3':=B3.put (o' := .deferred none) hd rfl
        have f2:=e2'.two_.1
        have f2b:=e2'.two_.2.1
        have f3:=e3'.one_.1
        clear hw hR1 hend hhit
        go_wp2_with fail
        refine leavesM_mark (by simp) hd ?_
        exact ⟨.tuple #[.agg #[.int .i64 (k:Nat),.int .i64 2],.int .i64 0],by simp [results,Tryz.results6,go_sem,f2,f2b,f3],ret_judV hv.out,bPut hbc hD' _⟩
       ·have hv:=Lib.hid (hend.out (fun j hj=>hw j (by rw [←hlim.out] at hj;omega)))
        replace B2:Blk Wc (W.heap.size+1+1) 37 #[.int .i64 0,.int .i64 0]:=B2
        clear hw hR1 hend hhit
        obtain ⟨x2,x2b,z2,z2b⟩:=B2.two_
        obtain ⟨x3,z3⟩:=B3.one_
        obtain ⟨xk,zk⟩:=BK.one_
        first
         | (obtain ⟨e2, e3⟩ := setV_blks B2 B3 (.int .i64 (-1)) (.int .i64 0) (.int .i64 0)
            have hb3:=setV_below hbc (.int .i64 (-1)) (.int .i64 0) (.int .i64 0)
            have hm:=setV_mark B2 B3 hd (.int .i64 (-1)) (.int .i64 0) (.int .i64 0)
            have e2':=e2.put (o' := .deferred none) hm rfl
            have e3':=e3.put (o' := .deferred none) hm rfl
            go_wp2_with fail
            have f2:=e2'.two_.1
            have f2b:=e2'.two_.2.1
            have f3:=e3'.one_.1
            unfold setV at f2 f2b f3 hm
            refine leavesM_mark (by simp) hm ?_
            exact ⟨.tuple #[.agg #[.int .i64 (-1),.int .i64 0],.int .i64 0],by simp [results,Tryz.results6,go_sem,f2,f2b,f3],ret_judV hv.out,bPut hb3 hD' _⟩)
         | (obtain ⟨e2, e3⟩ := setV_blks B2 B3 (.int .i64 (kk : Nat)) (.int .i64 why) (.int .i64 0)
            have hb3:=setV_below hbc (.int .i64 (kk:Nat)) (.int .i64 why) (.int .i64 0)
            have hm:=setV_mark B2 B3 hd (.int .i64 (kk:Nat)) (.int .i64 why) (.int .i64 0)
            have e2':=e2.put (o' := .deferred none) hm rfl
            have e3':=e3.put (o' := .deferred none) hm rfl
            go_wp2_with fail
            have f2:=e2'.two_.1
            have f2b:=e2'.two_.2.1
            have f3:=e3'.one_.1
            unfold setV at f2 f2b f3 hm
            refine leavesM_mark (by simp) hm ?_
            exact ⟨.tuple #[.agg #[.int .i64 (kk:Nat),.int .i64 why],.int .i64 0],by simp [results,Tryz.results6,go_sem,f2,f2b,f3],ret_judV hv.out,bPut hb3 hD' _⟩)
   ·have hv:Hid (R=(0,0,e0)):=Lib.hid (by rw [hR.out,judge_err hlb.out hkl.out (by rw [he0.out];exact hee),he0.out])
    have t1:(e0==0)=false:=by rw [beq_eq_false_iff_ne];exact hee
    have t2:(e0 != 0)=true:=by simp [hee]
    clear hee
    obtain ⟨e2,e3⟩:=setV_blks B2 B3 (.int .i64 0) (.int .i64 0) (.int .i64 e0)
    have hb3:=setV_below hb1 (.int .i64 0) (.int .i64 0) (.int .i64 e0)
    go_upto_region 5 with fail
    go_region_with (fail)
    all_goals
     go_wp2_with fail
     have f2:=(show Blk (setV w3 W.heap.size (.int .i64 0) (.int .i64 0) (.int .i64 e0)).drew _ _ _ from e2).two_.1
     have f2b:=(show Blk (setV w3 W.heap.size (.int .i64 0) (.int .i64 0) (.int .i64 e0)).drew _ _ _ from e2).two_.2.1
     have f3:=(show Blk (setV w3 W.heap.size (.int .i64 0) (.int .i64 0) (.int .i64 e0)).drew _ _ _ from e3).one_.1
     unfold setV at f2 f2b f3
     exact ⟨.tuple #[.agg #[.int .i64 0,.int .i64 0],.int .i64 e0],by simp [results,Tryz.results6,go_sem,f2,f2b,f3],ret_judV hv.out,bDr hb3⟩
 ·have hv:Hid (R=(0,0,560)):=Lib.hid (by rw [hR];exact judge_bad (fun hh=>hkl hh.2))
  have hne:¬((l.length:Int)=(a.c.keys.length:Int)):=by omega
  clear hR hkl
  obtain ⟨e2,e3⟩:=setV_blks B2 B3 (.int .i64 0) (.int .i64 0) (.int .i64 560)
  have hb3:=setV_below hb1 (.int .i64 0) (.int .i64 0) (.int .i64 560)
  go_wp2_with fail
  have f2:=e2.two_.1
  have f2b:=e2.two_.2.1
  have f3:=e3.one_.1
  unfold setV at f2 f2b f3
  exact ⟨.tuple #[.agg #[.int .i64 0,.int .i64 0],.int .i64 560],by simp [results,Tryz.results6,go_sem,f2,f2b,f3],ret_judV hv.out,hb3⟩
end Go.Proofs.YtoeobcmmafncmaaGreatDoor

/- paths.Check, walked. -/
import Derived.Test.YtoeobcmmafncmaaGreatDoorSap
import Derived.Sort.CutIn
import Derived.WalkMore
import Derived.Test.YtoeobcmmafncmaaGreatDoorSbf
set_option maxRecDepth 1000000
set_option maxHeartbeats 16000000
namespace Go.Proofs.YtoeobcmmafncmaaGreatDoor
open Go.RowKit
attribute [local go_sem] Oper.semAt_some
theorem case_info:(Tryz.prog.info? 33).map (·.size)=some 15:=by kernel_rfl
theorem step_info:(Tryz.prog.info? 86).map (·.size)=some 74:=by kernel_rfl
def set3 (w:World) (s:Nat) (a b e:Value):World:=((w.setCell ⟨s+1,0,none⟩ a).setCell ⟨s+1+1,0,none⟩ b).setCell ⟨s+1+1+1,0,none⟩ e
theorem set3_blks {w:World} {s:Nat} {a0 b0 e0:Value} (B2:Blk w (s+1) 3 #[a0]) (B3:Blk w (s+1+1) 3 #[b0]) (B4:Blk w (s+1+1+1) 38 #[e0]) (a b e:Value) :
  Blk (set3 w s a b e) (s+1) 3 #[a]∧Blk (set3 w s a b e) (s+1+1) 3 #[b]∧Blk (set3 w s a b e) (s+1+1+1) 38 #[e]:=by
 unfold set3
 refine ⟨((B2.set1 a).far (by show s+1≠s+1+1;omega) b).far (by show s+1≠s+1+1+1;omega) e,?_,?_⟩
 ·exact ((B3.far (by show s+1+1≠s+1;omega) a).set1 b).far (by show s+1+1≠s+1+1+1;omega) e
 ·exact ((B4.far (by show s+1+1+1≠s+1;omega) a).far (by show s+1+1+1≠s+1+1;omega) b).set1 e
theorem set3_below {W w:World} (h:Below W.heap.size W w) (a b e:Value):Below W.heap.size W (set3 w W.heap.size a b e) :=
 bSet (bSet (bSet h (p:=⟨W.heap.size+1,0,none⟩) (by show W.heap.size≤W.heap.size+1;omega) a) (p:=⟨W.heap.size+1+1,0,none⟩) (by show W.heap.size≤W.heap.size+1+1;omega) b) (p:=⟨W.heap.size+1+1+1,0,none⟩) (by show W.heap.size≤W.heap.size+1+1+1;omega) e
theorem set3_mark {w:World} {s D:Nat} {a0 b0 e0:Value} (B2:Blk w (s+1) 3 #[a0]) (B3:Blk w (s+1+1) 3 #[b0]) (B4:Blk w (s+1+1+1) 38 #[e0]) (hd:w.heap[D]?=some (.deferred (some []))) (a b e:Value) :
  (set3 w s a b e).heap[D]?=some (.deferred (some [])):=by
 unfold set3
 rw [Below.heap_setCell _ _ _ _ (fun x=>ne_mark B4 hd rfl x.symm),Below.heap_setCell _ _ _ _ (fun x=>ne_mark B3 hd rfl x.symm),Below.heap_setCell _ _ _ _ (fun x=>ne_mark B2 hd rfl x.symm)]
 exact hd
theorem mark_under {w:World} {D D2:Nat} (h:w.heap[D]?=some (.deferred (some []))) (hn:D<D2):(w.putObj D2 (.deferred none)).heap[D]?=some (.deferred (some [])):=(World.putObj_heap_other (by omega)).trans h
theorem two_ {w:World} {b d:Nat} {t u:TypeId} {v x:Value} (h:Blk w b t #[v]) (k:Blk w d u #[x]):w.cell? ⟨b,0,none⟩=some v∧w.cell? ⟨d,0,none⟩=some x:=⟨h.cell 0,k.cell 0⟩
theorem off_stops (cb rb g B nj ck cj cr:Nat) (AK AJ:Option Addr) (cs:Array Value) (v0:Value) (keys rests:List Int) (jobs:List (Array Value)) (em:Nat→Bool) (K:Nat→Prop) (w:World)
  (hcb:K cb) (hrb:K rb) (hKg:K g) (hKB:∀ k,k<B→K k) (hKn:∀ k,w.heap.size≤k→K k)
  (hBW:B≤w.heap.size) (hBc:Blk w cb 33 cs) (hBr:Blk w rb 22 #[.slice (some ⟨g,0,none⟩) (nj+1) cr]) (hBg:Blk w g 3 (ints rests).toArray)
  (h3:cs[3]?=some v0) (hv0:∃ A n c,v0 = .slice A n c) (h4:cs[4]?=some (.slice AK nj ck)) (h5:cs[5]?=some (.slice AJ nj cj))
  (hK:Rd w B 1 AK nj (ints keys)) (hJb:Rd w B 49 AJ nj (jobs.flatMap Array.toList)) (hjobs:∀ k jc,jobs[k]?=some jc→JobC jc (em k)) (hjl:jobs.length=nj) (hkl:keys.length=nj) (hrl:rests.length=nj+1) (hn:nj≤1000) :
  SeqT (fun _=>False) (2+1) Tryz.prog 56 #[.pointer (some ⟨cb,0,none⟩),.pointer (some ⟨rb,0,none⟩)] (offE v0 keys rests jobs em) (KeepsC K) (fun ys=>ys=upto nj nj) (fun pre=>∃ k,k<nj∧pre=upto nj (k+1)) nj w:=by
 intro L J Jx W hW hJ _ hY h0
 exact off_loop L cb rb g B nj ck cj cr AK AJ cs v0 keys rests jobs em K J Jx W hcb hrb hKg hKB (fun k hk=>hKn k (Nat.le_trans hW.size hk)) hJ hY (Nat.le_trans hBW hW.size) (hBc.below hW hBc.lt) (hBr.below hW hBr.lt) (hBg.below hW hBg.lt)
  h3 hv0 h4 h5 (hK.below (hW.mono hBW)) (hJb.below (hW.mono hBW)) hjobs hjl hkl hrl hn h0
theorem ret_chk {c:Int×Int×Int} {a b e:Int} (h:c=(a,b,e)):Ending.returned (.tuple #[.int .i64 a,.int .i64 b,.int .i64 e]) = .returned (.tuple #[.int .i64 c.1,.int .i64 c.2.1,.int .i64 c.2.2]):=by rw [h]
theorem pa_check (cs : Array Value) (jcs : List (Array Value)) (c : Cs) (W : World) (h : CaseAt W W.heap.size cs jcs c) (hG : ShaG W) :
  Calls Tryz.prog 12 #[.agg cs] W (Ret (.tuple #[.int .i64 c.check.1,.int .i64 c.check.2.1,.int .i64 c.check.2.2]) W):=by
 refine calls_of_wp_dm Tryz.func12 rfl ?_
 simp only [Tryz.ntmps12,List.size_toArray,List.length_cons,List.length_nil,Nat.reduceAdd,Nat.reduceSub,Array.replicate_succ,Array.replicate_zero,List.push_toArray,List.append_toArray,List.nil_append,List.cons_append]
 obtain ⟨AK,ck,hk4,hKd⟩:=h.keys
 obtain ⟨AJ,cj,hk5,hJd⟩:=h.jobs
 obtain ⟨AT,ct,hk13,hTd⟩:=h.steps
 obtain ⟨A0,c0,hk3,hFd,-,hFm⟩:=h.first
 obtain ⟨R,hR⟩:∃ R,R=c.check:=⟨_,rfl⟩
 rw [←hR]
 obtain ⟨w1,hw1⟩:∃ w1,w1=(((W.alloc (.cells cs 33)).alloc (.cells #[.int .i64 0] 3)).alloc (.cells #[.int .i64 0] 3)).alloc (.cells #[.int .i64 0] 38):=⟨_,rfl⟩
 have hb1:Below W.heap.size W w1:=by rw [hw1];exact bAl (bAl (bAl (bAl (bRefl W) _) _) _) _
 have B1:Blk w1 W.heap.size 33 cs:=by rw [hw1];exact (((Blk.new W _ _ _ rfl).alloc _).alloc _).alloc _
 have B2:Blk w1 (W.heap.size+1) 3 #[.int .i64 0]:=by rw [hw1];exact ((Blk.new _ _ _ _ (by simp)).alloc _).alloc _
 have B3:Blk w1 (W.heap.size+1+1) 3 #[.int .i64 0]:=by rw [hw1];exact (Blk.new _ _ _ _ (by simp)).alloc _
 have B4:Blk w1 (W.heap.size+1+1+1) 38 #[.int .i64 0]:=by rw [hw1];exact Blk.new _ _ _ _ (by simp)
 go_upto_region 1 with fail
 rw [←hw1]
 clear hw1
 go_step3
 go_upto_region 1 with fail
 apply wp_region_lit
 refine wpList_load_row rfl 33 (.tmp 1) rfl W.heap.size rfl 33 cs (0,0) _ B1 Tryz.underlying33 rfl (by rw [h.size];exact case_info) ?_
 have q:=pa_formed cs c.first c.keys.length c.jobs.length c.steps.length ck cj ct AK AJ AT c.place w1 (LsAt.more (h.first.below hb1) hb1.size) hk4 hk5 hk13 h.place
 rw [show formedB c.keys.length c.jobs.length c.steps.length c.first c.place=c.formed from rfl] at q
 cases hf:c.formed
 ·have hv:Hid (R=(0,0,550)):=by show _=_;rw [hR];unfold Cs.check;rw [hf];rfl
  rw [hf] at q
  clear hR hf
  go_wp2_with fail
  (with_reducible refine q.mono ?_)
  rintro e w2 ⟨rfl,b2⟩
  clear q
  replace B2:=B2.below b2 B2.lt
  replace B3:=B3.below b2 B3.lt
  replace B4:=B4.below b2 B4.lt
  replace hb1:=bCall hb1 b2
  obtain ⟨x2,z2⟩:=B2.one_
  obtain ⟨x3,z3⟩:=B3.one_
  obtain ⟨x4,z4⟩:=B4.one_
  obtain ⟨e2,e3,e4⟩:=set3_blks B2 B3 B4 (.int .i64 0) (.int .i64 0) (.int .i64 550)
  have hb3:=set3_below hb1 (.int .i64 0) (.int .i64 0) (.int .i64 550)
  go_wp2_with fail
  have f2:=e2.one_.1
  have f3:=e3.one_.1
  have f4:=e4.one_.1
  unfold set3 at f2 f3 f4
  exact ⟨.tuple #[.int .i64 0,.int .i64 0,.int .i64 550],by simp [results,Tryz.results12,go_sem,f2,f3,f4],ret_chk hv.out,hb3⟩
 ·rw [hf] at q
  go_wp2_with fail
  (with_reducible refine q.mono ?_)
  rintro e w2 ⟨rfl,b2⟩
  clear q
  replace B1:=B1.below b2 B1.lt
  replace B2:=B2.below b2 B2.lt
  replace B3:=B3.below b2 B3.lt
  replace B4:=B4.below b2 B4.lt
  replace hb1:=bCall hb1 b2
  clear b2
  obtain ⟨x2,z2⟩:=B2.one_
  obtain ⟨x3,z3⟩:=B3.one_
  obtain ⟨x4,z4⟩:=B4.one_
  have y4:=(B1.cell 4).trans hk4
  go_wp2_with fail
  have hff:=hf
  unfold Cs.formed formedB at hff
  simp only [Bool.and_eq_true,decide_eq_true_eq] at hff
  obtain ⟨n2,n9,hjn,hst,hfl0,hfl,hgood,hp0,hp1⟩:=hff
  have hz2:=B4.lt
  (with_reducible refine (ep_rest AK c.keys.length ck c.keys w2 ((hKd.below hb1).more hb1.size) (by omega)).mono ?_)
  rintro e w3 ⟨b3,hyes,hno⟩
  replace B1:=B1.below b3 B1.lt
  replace B2:=B2.below b3 B2.lt
  replace B3:=B3.below b3 B3.lt
  replace B4:=B4.below b3 B4.lt
  have hs2:=hb1.size
  replace hb1:=bCall hb1 b3
  clear b3 x2 z2 x3 z3 x4 z4 y4
  obtain ⟨x2,z2⟩:=B2.one_
  obtain ⟨x3,z3⟩:=B3.one_
  obtain ⟨x4,z4⟩:=B4.one_
  cases hvd:c.valid
  ·have hv:Hid (R=(0,0,550)):=by show _=_;rw [hR];unfold Cs.check;rw [hf,hvd];rfl
   obtain rfl:=hno (fun hh=>by unfold Cs.valid at hvd;rw [List.all_eq_true.2 hh] at hvd;cases hvd)
   clear hR hf hvd hyes hno
   replace B4:=B4.set1 (.int .i64 90)
   have hb2:=bSet hb1 (p:=⟨W.heap.size+1+1+1,0,none⟩) (by show W.heap.size≤W.heap.size+1+1+1;omega) (.int .i64 90)
   replace B2:=B2.far (p:=⟨W.heap.size+1+1+1,0,none⟩) (by show W.heap.size+1≠W.heap.size+1+1+1;omega) (.int .i64 90)
   replace B3:=B3.far (p:=⟨W.heap.size+1+1+1,0,none⟩) (by show W.heap.size+1+1≠W.heap.size+1+1+1;omega) (.int .i64 90)
   go_upto_region 4 with fail
   clear x2 z2 x3 z3 x4 z4 hb1
   generalize w3.setCell ⟨W.heap.size+1+1+1,0,none⟩ (.int .i64 90)=w4 at *
   obtain ⟨x2,z2⟩:=B2.one_
   obtain ⟨x3,z3⟩:=B3.one_
   obtain ⟨x4,z4⟩:=B4.one_
   obtain ⟨e2,e3,e4⟩:=set3_blks B2 B3 B4 (.int .i64 0) (.int .i64 0) (.int .i64 550)
   have hb3:=set3_below hb2 (.int .i64 0) (.int .i64 0) (.int .i64 550)
   go_wp2_with fail
   have f2:=e2.one_.1
   have f3:=e3.one_.1
   have f4:=e4.one_.1
   unfold set3 at f2 f3 f4
   exact ⟨.tuple #[.int .i64 0,.int .i64 0,.int .i64 550],by simp [results,Tryz.results12,go_sem,f2,f3,f4],ret_chk hv.out,hb3⟩
  ·obtain ⟨g,rfl,hg1,BG⟩:=hyes (fun k hk=>by unfold Cs.valid at hvd;exact List.all_eq_true.1 hvd k hk)
   have hvk:∀ k∈c.keys,validB k=true:=fun k hk=>by unfold Cs.valid at hvd;exact List.all_eq_true.1 hvd k hk
   clear hyes hno
   have hgs:W.heap.size+1+1+1<g:=Nat.lt_of_lt_of_le hz2 hg1
   replace B4:=B4.set1 (.int .i64 0)
   have hb2:=bSet hb1 (p:=⟨W.heap.size+1+1+1,0,none⟩) (by show W.heap.size≤W.heap.size+1+1+1;omega) (.int .i64 0)
   replace B1:=B1.far (p:=⟨W.heap.size+1+1+1,0,none⟩) (by show W.heap.size≠W.heap.size+1+1+1;omega) (.int .i64 0)
   replace B2:=B2.far (p:=⟨W.heap.size+1+1+1,0,none⟩) (by show W.heap.size+1≠W.heap.size+1+1+1;omega) (.int .i64 0)
   replace B3:=B3.far (p:=⟨W.heap.size+1+1+1,0,none⟩) (by show W.heap.size+1+1≠W.heap.size+1+1+1;omega) (.int .i64 0)
   replace BG:=BG.far (p:=⟨W.heap.size+1+1+1,0,none⟩) (by show g≠W.heap.size+1+1+1;omega) (.int .i64 0)
   go_upto_region 4 with fail
   clear x2 z2 x3 z3 x4 z4 hb1 hg1 hs2
   generalize w3.setCell ⟨W.heap.size+1+1+1,0,none⟩ (.int .i64 0)=w4 at *
   obtain ⟨x4,z4⟩:=B4.one_
   go_upto_region 6 with fail
   apply wp_region_lit
   refine wpList_load_row rfl 33 (.tmp 1) rfl W.heap.size rfl 33 cs (0,0) _ B1 Tryz.underlying33 rfl (by rw [h.size];exact case_info) ?_
   go_wp2_with fail
   (with_reducible refine (offices_any cs _ _ ⟨_,_,_,rfl⟩).mono ?_)
   rintro e w5 ⟨rfl,rfl⟩
   go_wp2_with fail
   have hw5:((w4.alloc (.cells cs 33)).alloc (.cells #[.slice (some ⟨g,0,none⟩) (c.keys.length+1) (c.keys.length+1)] 22)).heap.size=w4.heap.size+1+1:=by simp
   have hb5:=bAl (bAl hb2 (.cells cs 33)) (.cells #[.slice (some ⟨g,0,none⟩) (c.keys.length+1) (c.keys.length+1)] 22)
   have BC:=(Blk.new w4 33 cs _ rfl).alloc (.cells #[.slice (some ⟨g,0,none⟩) (c.keys.length+1) (c.keys.length+1)] 22)
   have BR:=Blk.new (w4.alloc (.cells cs 33)) 22 #[.slice (some ⟨g,0,none⟩) (c.keys.length+1) (c.keys.length+1)] (w4.heap.size+1) (by simp)
   replace B1:=(B1.alloc (.cells cs 33)).alloc (.cells #[.slice (some ⟨g,0,none⟩) (c.keys.length+1) (c.keys.length+1)] 22)
   replace B2:=(B2.alloc (.cells cs 33)).alloc (.cells #[.slice (some ⟨g,0,none⟩) (c.keys.length+1) (c.keys.length+1)] 22)
   replace B3:=(B3.alloc (.cells cs 33)).alloc (.cells #[.slice (some ⟨g,0,none⟩) (c.keys.length+1) (c.keys.length+1)] 22)
   replace B4:=(B4.alloc (.cells cs 33)).alloc (.cells #[.slice (some ⟨g,0,none⟩) (c.keys.length+1) (c.keys.length+1)] 22)
   replace BG:=(BG.alloc (.cells cs 33)).alloc (.cells #[.slice (some ⟨g,0,none⟩) (c.keys.length+1) (c.keys.length+1)] 22)
   have hk5':=hk5
   have hJd':=hJd
   rw [hjn] at hk5' hJd'
   have hsz:=hb2.size
   have hw4g:g<((w4.alloc (.cells cs 33)).alloc (.cells #[.slice (some ⟨g,0,none⟩) (c.keys.length+1) (c.keys.length+1)] 22)).heap.size:=BG.lt
   generalize (w4.alloc (.cells cs 33)).alloc (.cells #[.slice (some ⟨g,0,none⟩) (c.keys.length+1) (c.keys.length+1)] 22)=w5 at *
   have hBW:W.heap.size≤w5.heap.size:=hb5.size
   refine wp_rangeC 2 (gf:=56) (lb:=#[.pointer (some ⟨w4.heap.size,0,none⟩),.pointer (some ⟨w4.heap.size+1,0,none⟩)]) rfl (enters_of Tryz.func56 (by kernel_rfl) rfl)
    (fun _=>True) (off_stops w4.heap.size (w4.heap.size+1) g W.heap.size c.keys.length ck cj (c.keys.length+1) AK AJ cs (.slice A0 c.first.length c0) c.keys (restL c.keys) jcs c.em (fun _=>True) w5 trivial trivial trivial (fun _ _=>trivial) (fun _ _=>trivial)
     hBW BC BR BG hk3 ⟨_,_,_,rfl⟩ hk4 hk5' (hKd.below hb5) (hJd'.below hb5) h.jobC (h.jlen.trans hjn) rfl (restL_length _) (by omega)) (fun _=>rfl) W hb5
    (fun _=>[(W.heap.size,33,cs),(W.heap.size+1,3,#[.int .i64 0]),(W.heap.size+1+1,3,#[.int .i64 0]),(W.heap.size+1+1+1,38,#[.int .i64 0]),(g,3,(ints (restL c.keys)).toArray)])
    (fun pre=>∀ x∈pre,c.bareAt x.val=true)
    (fun _ _=>[(W.heap.size+1,3,#[.int .i64 0]),(W.heap.size+1+1,3,#[.int .i64 0]),(W.heap.size+1+1+1,38,#[.int .i64 550])])
    (fun co _=>co = .ret∧Hid (c.bares=false)) ⟨B1,B2,B3,B4,BG,trivial⟩ (fun x hx=>by cases hx) ?round ?done ?stop
   case round =>
    clear B1 B2 B3 B4 BG BC BR hw5 hw4g
    rintro l pre x Wc hlen hbc ⟨B1,B2,B3,B4,BG,_⟩ hRp
    dsimp only at B1 B2 B3 B4 BG
    dsimp only [offE]
    have hxj:x.val<c.jobs.length:=by rw [hjn];exact x.isLt
    obtain ⟨hXs,hX1⟩:=h.shown_row A0 c.first.length c0 hxj
    have hsh:=h.shown hk3 hxj
    have hsm:(c.jobAt x.val).small:=by
     obtain ⟨jc,hjc⟩:∃ jc,jcs[x.val]?=some jc:=⟨_,List.getElem?_eq_getElem (by rw [h.jlen];exact hxj)⟩
     exact (h.job _ jc hjc).2.2.2
    have hl3:=hsh.hjob.lens3 hsm
    generalize shc (.slice A0 c.first.length c0) c.keys (restL c.keys) jcs c.em x.val=X at *
    apply wpIn_region_lit
    iterate 3 gi_step
    refine wpListIn_store rfl rfl rfl rfl (store_fresh (by rw [hXs];exact shown_info) (by rw [hXs];rfl) hX1) ?_
    refine wpListIn_nil ?_
    have BX:=Blk.new Wc 81 X _ rfl
    have hbx:=bAl (bRefl Wc) (.cells X 81)
    refine ⟨[(Wc.heap.size,81,X)],KeepsOthers.below hbx,KeepsC.below hbx,bCall hbc hbx,⟨BX,B1.below hbx B1.lt,B2.below hbx B2.lt,B3.below hbx B3.lt,B4.below hbx B4.lt,BG.below hbx BG.lt,trivial⟩,?_⟩
    clear B1 B2 B3 B4 BG BX hbx
    rintro L W2 hb2 ⟨BX,B1,B2,B3,B4,BG,_⟩
    dsimp only at BX B1 B2 B3 B4 BG
    generalize Wc.heap.size=xb at *
    gi_upto_region 8 with fail
    apply wpIn_region_lit
    refine wpListIn_load rfl rfl rfl (load_blk BX Tryz.underlying81 rfl (by rw [hXs];exact shown_info)) ?_
    have q:=pa_bare_ X (c.jobAt x.val).emptyB W2 hl3
    cases he:(c.jobAt x.val).emptyB
    ·have hok:Hid (∀ y∈pre++[x],c.bareAt y.val=true):=by
      intro y hy
      rcases List.mem_append.1 hy with hy | hy
      ·exact hRp y hy
      ·obtain rfl:y=x:=by simpa using hy
       unfold Cs.bareAt;rw [he];rfl
     rw [he] at q
     clear he hl3
     gi_wp2_with fail
     refine ⟨trivial,?_⟩
     (with_reducible refine (inR L q).mono ?_)
     rintro e w6 ⟨rfl,b6⟩
     clear q
     gi_wp2_with fail
     refine ⟨trivial,?_⟩
     gi_wp2_with fail
     exact ⟨KeepsOthers.below b6,KeepsC.below b6,bCall hb2 b6,⟨B1.below b6 B1.lt,B2.below b6 B2.lt,B3.below b6 B3.lt,B4.below b6 B4.lt,BG.below b6 BG.lt,trivial⟩,hok.out⟩
    ·have hbv:Hid (c.bareAt x.val=checkBareB (c.keyAt x.val) (c.inAt x.val) (c.jobAt x.val).bare (c.jobAt x.val).proofs):=by
      show _=_
      unfold Cs.bareAt;rw [he];rfl
     rw [he] at q
     clear he hl3
     obtain ⟨A1,c1,k0,hA1,hA1c,hA1m⟩:=hsh.hin
     obtain ⟨A2,c2,k3,hA2,hA2c,hA2m⟩:=hsh.hjob.h0
     obtain ⟨A3,c3,k4,hA3,hA3c,hA3m⟩:=hsh.hjob.h1
     have k1:=hsh.hkey
     gi_wp2_with fail
     refine ⟨trivial,?_⟩
     (with_reducible refine (inR L q).mono ?_)
     rintro e w6 ⟨rfl,b6⟩
     clear q
     replace BX:=BX.below b6 BX.lt
     have y0:=(BX.cell 0).trans k0
     have y1:=(BX.cell 1).trans k1
     have y3:w6.cell? ⟨xb,3,none⟩=_:=(BX.cell 3).trans k3
     have y4:w6.cell? ⟨xb,4,none⟩=_:=(BX.cell 4).trans k4
     have hb6:=bCall hb2 b6
     have q:=equal_checkBare (c.keyAt x.val) A1 A2 A3 _ _ _ c1 c2 c3 (c.inAt x.val) (c.jobAt x.val).bare (c.jobAt x.val).proofs w6 ((hA1.below hb6).more hb6.size) ((hA2.below hb6).more hb6.size) ((hA3.below hb6).more hb6.size) (by omega) (by omega) (by omega) (hG.below hb6)
     cases hcb:checkBareB (c.keyAt x.val) (c.inAt x.val) (c.jobAt x.val).bare (c.jobAt x.val).proofs
     ·have hbad:Hid (c.bares=false):=by
       show _=_
       unfold Cs.bares
       exact List.all_eq_false.2 ⟨x.val,List.mem_range.2 x.isLt,by rw [hbv.out,hcb];simp⟩
      rw [hcb] at q
      clear hcb hbv k0 k1 k3 k4
      gi_wp2_with fail
      refine ⟨trivial,?_⟩
      (with_reducible refine (inR L q).mono ?_)
      rintro e w7 ⟨rfl,b7⟩
      clear q y0 y1 y3 y4
      have b67:=bCall b6 b7
      have hb7:=bCall hb2 b67
      replace B2:=B2.below b67 B2.lt
      replace B3:=B3.below b67 B3.lt
      replace B4:=B4.below b67 B4.lt
      obtain ⟨x2,z2⟩:=B2.one_
      obtain ⟨x3,z3⟩:=B3.one_
      obtain ⟨x4,z4⟩:=B4.one_
      obtain ⟨e2,e3,e4⟩:=set3_blks B2 B3 B4 (.int .i64 0) (.int .i64 0) (.int .i64 550)
      have hb8:=set3_below hb7 (.int .i64 0) (.int .i64 0) (.int .i64 550)
      gi_wp2_with fail
      exact ⟨(KeepsOthers.below b67).trans ((KeepsOthers.setCell _ _ _).trans ((KeepsOthers.setCell _ _ _).trans (KeepsOthers.setCell _ _ _))),hb8,⟨e2,e3,e4,trivial⟩,rfl,hbad⟩
     ·have hok:Hid (∀ y∈pre++[x],c.bareAt y.val=true):=by
       intro y hy
       rcases List.mem_append.1 hy with hy | hy
       ·exact hRp y hy
       ·obtain rfl:y=x:=by simpa using hy
        rw [hbv.out,hcb]
      rw [hcb] at q
      clear hcb hbv k0 k1 k3 k4
      gi_wp2_with fail
      refine ⟨trivial,?_⟩
      (with_reducible refine (inR L q).mono ?_)
      rintro e w7 ⟨rfl,b7⟩
      clear q y0 y1 y3 y4
      have b67:=bCall b6 b7
      gi_wp2_with fail
      exact ⟨KeepsOthers.below b67,KeepsC.below b67,bCall hb2 b67,⟨B1.below b67 B1.lt,B2.below b67 B2.lt,B3.below b67 B3.lt,B4.below b67 B4.lt,BG.below b67 BG.lt,trivial⟩,hok.out⟩
   case done =>
    clear B1 B2 B3 B4 BG BC BR hw5 hw4g
    rintro D xs Wc hD rfl hbc ⟨B1,B2,B3,B4,BG,_⟩ hall hd
    dsimp only at B1 B2 B3 B4 BG
    have hbs:Hid (c.bares=true):=by
     show _=_
     unfold Cs.bares
     exact List.all_eq_true.2 (fun i hi=>hall ⟨i,List.mem_range.1 hi⟩ (by unfold upto;rw [List.take_of_length_le (by simp)];exact List.mem_finRange _))
    clear hall
    obtain ⟨p0,hp⟩:∃ p:Nat,c.place=p:=⟨c.place.toNat,by omega⟩
    have hp':c.place.toNat=p0:=by omega
    have hpl:p0<c.first.length:=by omega
    have y6:=(B1.cell 6).trans h.place
    rw [hp] at y6
    go_upto_region 11 with fail
    have hbk:=bAl (bRefl Wc) (.cells #[.int .i64 (p0:Nat)] 3)
    have BK:=Blk.new Wc 3 #[.int .i64 (p0:Nat)] _ rfl
    have hDs:D<Wc.heap.size:=(Array.getElem?_eq_some_iff.1 hd).1
    have hd6:=(hbk.block D hDs).trans hd
    replace B1:=B1.below hbk B1.lt
    have hkb:W.heap.size+1+1+1<Wc.heap.size:=B4.lt
    have hkg:g<Wc.heap.size:=BG.lt
    replace B2:=B2.below hbk B2.lt
    replace B3:=B3.below hbk B3.lt
    replace B4:=B4.below hbk B4.lt
    replace BG:=BG.below hbk BG.lt
    replace hbc:=bCall hbc hbk
    clear hd y6 hbk
    generalize Wc.alloc (.cells #[.int .i64 (p0:Nat)] 3)=w6 at *
    generalize Wc.heap.size=kb at *
    have hr0:(restL c.keys)[0]?=some (c.restAt 0):=by
     obtain ⟨r,h1,h2⟩:=restL_head (l:=c.keys)
     unfold Cs.restAt
     rw [List.getD_eq_getElem?_getD,h1];rfl
    have KS:Hid (∀ w',Below w6.heap.size w6 w'→_):=Lib.hid (fun w' b=>and7 (((BG.below b BG.lt).cell 0).trans (show (ints (restL c.keys)).toArray[0]?=some (.int .i64 (c.restAt 0)) by rw [List.getElem?_toArray];exact ints_at hr0))
     (((B1.below b B1.lt).cell 7).trans h.w0) (((B1.below b B1.lt).cell 8).trans h.w1) (((B1.below b B1.lt).cell 9).trans h.w2) (((B1.below b B1.lt).cell 10).trans h.r0) (((B1.below b B1.lt).cell 11).trans h.r1) (((B1.below b B1.lt).cell 12).trans h.r2))
    obtain ⟨sv,hsv⟩:∃ sv,sv=sealV (c.restAt 0) c.words.x c.words.y c.words.z c.r0 c.r1 c.r2:=⟨_,rfl⟩
    obtain ⟨se,hse⟩:∃ se,se=sealE (c.restAt 0) c.words.x c.words.y c.words.z:=⟨_,rfl⟩
    have q:Hid (∀ w,Calls Tryz.prog 19 #[.int .i64 (c.restAt 0),.agg #[.int .i64 c.words.x,.int .i64 c.words.y,.int .i64 c.words.z],.agg #[.int .i64 c.r0,.int .i64 c.r1,.int .i64 c.r2]] w (Ret (.tuple #[.agg #[.int .i64 sv.a0,.int .i64 sv.b0,.int .i64 sv.a1,.int .i64 sv.b1,.int .i64 sv.a2,.int .i64 sv.b2],.int .i64 se]) w)):=by
     intro w
     rw [hsv,hse]
     exact el_seal _ _ _ _ _ _ _ w
    have hsl:Hid (c.sealed=(decide (se=0)&&sv.eqB (c.first.getD p0 zeroL))):=by
     show _=_
     rw [hsv,hse];unfold Cs.sealed;rw [hp']
    clear hsv hse hr0
    have i0:(0:Int)<(c.keys.length:Int)+1:=by omega
    go_cut [9,10] from 51 (fun s9 s10 wc=>∃ lb,s9 = .pointer (some ⟨lb,0,none⟩)∧s10 = .int .i64 se∧Blk wc lb 70 #[.int .i64 sv.a0,.int .i64 sv.b0,.int .i64 sv.a1,.int .i64 sv.b1,.int .i64 sv.a2,.int .i64 sv.b2]∧Below w6.heap.size w6 wc)
    case first =>
     clear hf hvd
     go_region_held3 (fun w'=>w'.cell? ⟨g,0,none⟩=some (.int .i64 (c.restAt 0))∧w'.cell? ⟨W.heap.size,7,none⟩=some (.int .i64 c.words.x)∧w'.cell? ⟨W.heap.size,8,none⟩=some (.int .i64 c.words.y)∧w'.cell? ⟨W.heap.size,9,none⟩=some (.int .i64 c.words.z)∧w'.cell? ⟨W.heap.size,10,none⟩=some (.int .i64 c.r0)∧w'.cell? ⟨W.heap.size,11,none⟩=some (.int .i64 c.r1)∧w'.cell? ⟨W.heap.size,12,none⟩=some (.int .i64 c.r2))
      (exact KS.out _ (by repeat (first | with_reducible exact B7 | with_reducible exact bRefl _ | with_reducible refine bAl ?_ _ | with_reducible refine bDr ?_ | with_reducible refine bSet ?_ (by exact Nat.le_refl _) _)))
      (first
      | (go_simp;go_at_call 19;(with_reducible refine (q.out _).mono ?_);rintro e w7 ⟨rfl,b7⟩;have B7:Below w6.heap.size w6 w7:=bCall (by repeat (first | exact bRefl _ | refine bAl ?_ _ | refine bDr ?_)) b7;(try (have BZ:Blk w7 w6.heap.size 70 #[.int .i64 0,.int .i64 0,.int .i64 0,.int .i64 0,.int .i64 0,.int .i64 0]:=Blk.below (by first | exact Blk.new _ _ _ _ rfl | exact Blk.dr (Blk.new _ _ _ _ rfl)) b7 (by simp);obtain ⟨k0,k1,k2,k3,k4,k5⟩:=BZ.six;obtain ⟨z0,z1,z2,z3,z4,z5⟩:=BZ.six_free))))
     all_goals
      go_wp2_with fail
      go_meet
      first
       | (with_reducible refine ⟨_,rfl,rfl,Blk.new _ _ _ _ rfl,bAl B7 _⟩;done)
       | exact ⟨_,rfl,rfl,BZ.set6 (.int .i64 sv.a0) (.int .i64 sv.b0) (.int .i64 sv.a1) (.int .i64 sv.b1) (.int .i64 sv.a2) (.int .i64 sv.b2),bSet6 B7 (Nat.le_refl _) (.int .i64 sv.a0) (.int .i64 sv.b0) (.int .i64 sv.a1) (.int .i64 sv.b1) (.int .i64 sv.a2) (.int .i64 sv.b2)⟩
    case rest =>
     obtain ⟨lb,rfl,rfl,BS,b8⟩:=hcut
     replace B1:=B1.below b8 B1.lt
     replace B2:=B2.below b8 B2.lt
     replace B3:=B3.below b8 B3.lt
     replace B4:=B4.below b8 B4.lt
     replace BG:=BG.below b8 BG.lt
     replace BK:=BK.below b8 BK.lt
     replace hd6:=(b8.block D (Array.getElem?_eq_some_iff.1 hd6).1).trans hd6
     replace hbc:=bCall hbc b8
     clear b8 KS q
     obtain ⟨X0,hX0⟩:∃ X,Hid (c.first[p0]?=some X):=⟨_,Lib.hid (List.getElem?_eq_getElem hpl)⟩
     have hsl2:Hid (c.sealed=(decide (se=0)&&sv.eqB X0)):=by
      show _=_
      rw [hsl.out,List.getD_eq_getElem?_getD,hX0.out];rfl
     clear hsl
     by_cases hse:se=0
     case neg =>
      have hv:Hid (R=(0,1,0)):=by show _=_;rw [hR];unfold Cs.check;rw [hf,hvd,hbs.out,hsl2.out,decide_eq_false hse];rfl
      have f0:(se != 0)=true:=by rw [bne_iff_ne];exact hse
      clear hR hf hvd hse hsl2
      go_upto_region 12 with fail
      go_quiet (fail)
      have E2:Blk (wc.drewN nq) (W.heap.size+1) 3 #[.int .i64 0]:=B2
      have E3:Blk (wc.drewN nq) (W.heap.size+1+1) 3 #[.int .i64 0]:=B3
      have E4:Blk (wc.drewN nq) (W.heap.size+1+1+1) 38 #[.int .i64 0]:=B4
      have hd9:(wc.drewN nq).heap[D]?=some (.deferred (some [])):=hd6
      have hb9:=bDrN hbc nq
      clear B1 B2 B3 B4 BG BK BS hd6 hbc
      generalize wc.drewN nq=w9 at *
      obtain ⟨x2,z2⟩:=E2.one_
      obtain ⟨x3,z3⟩:=E3.one_
      obtain ⟨x4,z4⟩:=E4.one_
      obtain ⟨e2,e3,e4⟩:=set3_blks E2 E3 E4 (.int .i64 0) (.int .i64 1) (.int .i64 0)
      have hm:=set3_mark E2 E3 E4 hd9 (.int .i64 0) (.int .i64 1) (.int .i64 0)
      have hb10:=set3_below hb9 (.int .i64 0) (.int .i64 1) (.int .i64 0)
      have f2:=(e2.put (o' := .deferred none) hm rfl).one_.1
      have f3:=(e3.put (o' := .deferred none) hm rfl).one_.1
      have f4:=(e4.put (o' := .deferred none) hm rfl).one_.1
      unfold set3 at f2 f3 f4 hm
      go_wp2_with fail
      refine leavesM_mark (by simp) hm ?_
      exact ⟨.tuple #[.int .i64 0,.int .i64 1,.int .i64 0],by simp [results,Tryz.results12,go_sem,f2,f3,f4],ret_chk hv.out,bPut hb10 hD _⟩
     case pos =>
      subst hse
      have hne:=run_neS sv X0
      unfold Ltr.agg at hne
      have hbW8:=hbc.size
      obtain ⟨b,off,rfl,hbb,o0,o1,o2,o3,o4,o5⟩:=Ltr_at (hFd.below hbc) hpl hX0.out
      obtain ⟨s0,s1,s2,s3,s4,s5⟩:=BS.six
      have y3:=(B1.cell 3).trans hk3
      have yk:=BK.one_.1
      have i1:(0:Int)≤(p0:Int):=by omega
      have i2:(p0:Int)<(c.first.length:Int):=by omega
      cases hr:sv.eqB X0
      case false =>
       have hv:Hid (R=(0,1,0)):=by show _=_;rw [hR];unfold Cs.check;rw [hf,hvd,hbs.out,hsl2.out,hr];rfl
       rw [hr] at hne
       clear hR hf hvd hsl2 hr
       go_upto_region 12 with fail
       go_quiet (fail)
       clear s0 s1 s2 s3 s4 s5 o0 o1 o2 o3 o4 o5 y3 yk hne
       have E2:Blk (wc.drewN nq) (W.heap.size+1) 3 #[.int .i64 0]:=B2
       have E3:Blk (wc.drewN nq) (W.heap.size+1+1) 3 #[.int .i64 0]:=B3
       have E4:Blk (wc.drewN nq) (W.heap.size+1+1+1) 38 #[.int .i64 0]:=B4
       have hd9:(wc.drewN nq).heap[D]?=some (.deferred (some [])):=hd6
       have hb9:=bDrN hbc nq
       clear B1 B2 B3 B4 BG BK BS hd6 hbc
       generalize wc.drewN nq=w9 at *
       obtain ⟨x2,z2⟩:=E2.one_
       obtain ⟨x3,z3⟩:=E3.one_
       obtain ⟨x4,z4⟩:=E4.one_
       obtain ⟨e2,e3,e4⟩:=set3_blks E2 E3 E4 (.int .i64 0) (.int .i64 1) (.int .i64 0)
       have hm:=set3_mark E2 E3 E4 hd9 (.int .i64 0) (.int .i64 1) (.int .i64 0)
       have hb10:=set3_below hb9 (.int .i64 0) (.int .i64 1) (.int .i64 0)
       have f2:=(e2.put (o' := .deferred none) hm rfl).one_.1
       have f3:=(e3.put (o' := .deferred none) hm rfl).one_.1
       have f4:=(e4.put (o' := .deferred none) hm rfl).one_.1
       unfold set3 at f2 f3 f4 hm
       go_wp2_with fail
       refine leavesM_mark (by simp) hm ?_
       exact ⟨.tuple #[.int .i64 0,.int .i64 1,.int .i64 0],by simp [results,Tryz.results12,go_sem,f2,f3,f4],ret_chk hv.out,bPut hb10 hD _⟩
      case true =>
       have hsd:Hid (c.sealed=true):=by show _=_;rw [hsl2.out,hr];rfl
       rw [hr] at hne
       clear hsl2 hr
       go_upto_region 12 with fail
       go_quiet (fail)
       clear s0 s1 s2 s3 s4 s5 o0 o1 o2 o3 o4 o5 y3 yk hne BS
       go_wp2_with fail
       go_step3
       have E1:Blk (wc.drewN nq) W.heap.size 33 cs:=B1
       have E2:Blk (wc.drewN nq) (W.heap.size+1) 3 #[.int .i64 0]:=B2
       have E3:Blk (wc.drewN nq) (W.heap.size+1+1) 3 #[.int .i64 0]:=B3
       have E4:Blk (wc.drewN nq) (W.heap.size+1+1+1) 38 #[.int .i64 0]:=B4
       have EG:Blk (wc.drewN nq) g 3 (ints (restL c.keys)).toArray:=BG
       have EK:Blk (wc.drewN nq) kb 3 #[.int .i64 (p0:Nat)]:=BK
       have hd9:(wc.drewN nq).heap[D]?=some (.deferred (some [])):=hd6
       have hb9:=bDrN hbc nq
       clear B1 B2 B3 B4 BG BK hd6 hbc
       generalize wc.drewN nq=w9 at *
       have hR2:Hid (R=((c.way c.keys.length 0 p0).1,(c.way c.keys.length 0 p0).2,0)):=by show _=_;rw [hR];unfold Cs.check;rw [hf,hvd,hbs.out,hsd.out,hp'];rfl
       clear hR hf hvd hbs hsd
       go_upto_region 14 with fail
       apply wp_region_lit
       refine wpList_load_row rfl 33 (.tmp 1) rfl W.heap.size rfl 33 cs (0,0) _ E1 Tryz.underlying33 rfl (by rw [h.size];exact case_info) ?_
       go_wp2_with fail
       (with_reducible refine (offices_any cs _ _ ⟨_,_,_,rfl⟩).mono ?_)
       rintro e w10 ⟨rfl,rfl⟩
       go_wp2_with fail
       have hb10:=bAl (bAl hb9 (.cells cs 33)) (.cells #[.slice (some ⟨g,0,none⟩) (c.keys.length+1) (c.keys.length+1)] 22)
       have BC:=(Blk.new w9 33 cs _ rfl).alloc (.cells #[.slice (some ⟨g,0,none⟩) (c.keys.length+1) (c.keys.length+1)] 22)
       have BR:=Blk.new (w9.alloc (.cells cs 33)) 22 #[.slice (some ⟨g,0,none⟩) (c.keys.length+1) (c.keys.length+1)] (w9.heap.size+1) (by simp)
       have hbn:Below w9.heap.size w9 ((w9.alloc (.cells cs 33)).alloc (.cells #[.slice (some ⟨g,0,none⟩) (c.keys.length+1) (c.keys.length+1)] 22)):=bAl (bAl (bRefl w9) _) _
       have hkk:=EK.lt
       replace hd9:=(hbn.block D (Array.getElem?_eq_some_iff.1 hd9).1).trans hd9
       replace E1:=E1.below hbn E1.lt
       replace E2:=E2.below hbn E2.lt
       replace E3:=E3.below hbn E3.lt
       replace E4:=E4.below hbn E4.lt
       replace EG:=EG.below hbn EG.lt
       replace EK:=EK.below hbn EK.lt
       clear hbn
       generalize (w9.alloc (.cells cs 33)).alloc (.cells #[.slice (some ⟨g,0,none⟩) (c.keys.length+1) (c.keys.length+1)] 22)=w10 at *
       have hBW10:W.heap.size≤w10.heap.size:=hb10.size
       have hkk2:=EK.lt
       refine wp_rangeCM 2 (gf:=56) (lb:=#[.pointer (some ⟨w9.heap.size,0,none⟩),.pointer (some ⟨w9.heap.size+1,0,none⟩)]) rfl (enters_of Tryz.func56 (by kernel_rfl) rfl)
        (fun k=>k≠kb) (off_stops w9.heap.size (w9.heap.size+1) g W.heap.size c.keys.length ck cj (c.keys.length+1) AK AJ cs (.slice (some ⟨b,off,none⟩) c.first.length c0) c.keys (restL c.keys) jcs c.em (fun k=>k≠kb) w10 (by omega) (by omega) (by omega) (fun k hk=>by omega) (fun k hk=>by omega)
         hBW10 BC BR EG hk3 ⟨_,_,_,rfl⟩ hk4 hk5' (hKd.below hb10) (hJd'.below hb10) h.jobC (h.jlen.trans hjn) rfl (restL_length _) (by omega)) (fun _=>rfl) W hb10
        (fun pre=>[(W.heap.size,33,cs),(W.heap.size+1,3,#[.int .i64 0]),(W.heap.size+1+1,3,#[.int .i64 0]),(W.heap.size+1+1+1,38,#[.int .i64 0]),(g,3,(ints (restL c.keys)).toArray),(kb,3,#[.int .i64 (((pre.foldl c.go (some p0)).getD 0:Nat):Int)])])
        (fun pre=>∃ p,pre.foldl c.go (some p0)=some p∧p≤1152921504606846976)
        (fun _ pre=>[(W.heap.size+1,3,#[.int .i64 (legOf pre:Nat)]),(W.heap.size+1+1,3,#[.int .i64 (c.whyAt (legOf pre) (c.atOf p0 pre))]),(W.heap.size+1+1+1,38,#[.int .i64 0])])
        (fun co pre=>co = .exit 2∧∃ pre' x p,pre=pre'++[x]∧pre'.foldl c.go (some p0)=some p∧(c.jobAt x.val).emptyB=false∧c.whyAt x.val p≠0) D _ hd9 rfl ⟨E1,E2,E3,E4,EG,EK,trivial⟩ ⟨p0,rfl,by omega⟩ ?round2 ?done2 ?stop2
       case done2 =>
        clear E1 E2 E3 E4 EG EK BC BR hd9
        rintro D2 xs Wd hD2 rfl hbd ⟨E1,E2,E3,E4,EG,EK,_⟩ ⟨p,hpf,_⟩ hd2 hd1 hDD
        dsimp only at E1 E2 E3 E4 EG EK
        have hv:Hid (R=(0,0,0)):=by show _=_;rw [hR2.out,c.way_done hpf]
        clear hR2 hpf E1 EG EK
        have KS:Hid (∀ w',Below Wd.heap.size Wd w'→_):=Lib.hid (fun w' b=>two_ (E2.below b E2.lt) (E3.below b E3.lt))
        go_upto_region 28 with fail
        have F2:=Blk.dr E2
        have F3:=Blk.dr E3
        have F4:=Blk.dr E4
        obtain ⟨x2,z2⟩:=F2.one_
        obtain ⟨x3,z3⟩:=F3.one_
        obtain ⟨x4,z4⟩:=F4.one_
        refine wp_region_mask (fun w'=>w'.cell? ⟨W.heap.size+1,0,none⟩=some (.int .i64 0)∧w'.cell? ⟨W.heap.size+1+1,0,none⟩=some (.int .i64 0)) 3 1 [2,2,0,0,0] (by kernel_rfl) (by kernel_rfl) (by first | with_reducible exact KS.out _ (bDr (bRefl _)) | exact two_ (Blk.set1 F2 _) (Blk.far F3 (by show W.heap.size+1+1≠W.heap.size+1;omega) _)) ?_
        simp only [pickH,pickT]
        iterate 2 refine wpHeads_r ?_
        refine wpHeads_nil ?_
        iterate 1 (refine wpTailS_cons (fun K hK=>?_);go_simp;(first | (fail) | skip);refine hK.out _ _ (by first | with_reducible exact KS.out _ (bDr (bRefl _)) | exact two_ (Blk.set1 F2 _) (Blk.far F3 (by show W.heap.size+1+1≠W.heap.size+1;omega) _)) (fun hHeld=>?_);clear hHeld hK K;try simp only [Act.put,List.setIfInBounds_toArray,List.set_cons_zero,List.set_cons_succ])
        refine wpTailS_zero ?_
        clear x2 z2 x3 z3 x4 z4
        change wpList _ _ _ _ _ (World.setCell Wd.drew ⟨W.heap.size+1,0,none⟩ (.int .i64 0))
        have G2:Wd.drew.heap[D2]?=some (.deferred (some [])):=hd2
        have G1:Wd.drew.heap[D]?=some (.deferred (some [])):=hd1
        have hbe:=bDr hbd
        clear E2 E3 E4 hd2 hd1 hbd KS
        generalize Wd.drew=we at *
        obtain ⟨x2,z2⟩:=F2.one_
        obtain ⟨x3,z3⟩:=F3.one_
        obtain ⟨x4,z4⟩:=F4.one_
        obtain ⟨e2,e3,e4⟩:=set3_blks F2 F3 F4 (.int .i64 0) (.int .i64 0) (.int .i64 0)
        have hm2:=set3_mark F2 F3 F4 G2 (.int .i64 0) (.int .i64 0) (.int .i64 0)
        have hm1:=mark_under (set3_mark F2 F3 F4 G1 (.int .i64 0) (.int .i64 0) (.int .i64 0)) hDD
        have hbf:=set3_below hbe (.int .i64 0) (.int .i64 0) (.int .i64 0)
        have f2:=((e2.put (o' := .deferred none) hm2 rfl).put (o' := .deferred none) hm1 rfl).one_.1
        have f3:=((e3.put (o' := .deferred none) hm2 rfl).put (o' := .deferred none) hm1 rfl).one_.1
        have f4:=((e4.put (o' := .deferred none) hm2 rfl).put (o' := .deferred none) hm1 rfl).one_.1
        unfold set3 at f2 f3 f4 hm2 hm1
        go_wp2_with fail
        refine NoPanic.normal ?_
        go_wp2_with fail
        refine leavesM_mark (by simp) hm2 ?_
        refine leavesM_mark (by simp) hm1 ?_
        exact ⟨.tuple #[.int .i64 0,.int .i64 0,.int .i64 0],by simp [results,Tryz.results12,go_sem,f2,f3,f4],ret_chk hv.out,bPut (bPut hbf hD2 _) hD _⟩
       case stop2 =>
        clear E1 E2 E3 E4 EG EK BC BR hd9
        rintro D2 c' pre Wd hD2 ⟨k,hk,rfl⟩ hbd ⟨E2,E3,E4,_⟩ ⟨rfl,pre',x,p,hpre,hpf,hem,hwy⟩ hd2 hd1 hDD
        dsimp only at E2 E3 E4
        obtain ⟨hq1,hq2⟩:=List.append_inj' ((upto_succ hk).trans hpre) rfl
        simp only [List.cons.injEq,and_true] at hq2
        rw [hpre,legOf_snoc] at E2
        rw [hpre,legOf_snoc,c.atOf_snoc p0 _ _ hpf] at E3
        rw [←hq1] at hpf
        have hxk:x.val=k:=by rw [←hq2]
        rw [hxk] at E2 E3 hem hwy
        have hv:Hid (R=((k:Int),c.whyAt k p,0)):=by show _=_;rw [hR2.out,c.way_found hk hpf hem hwy]
        generalize c.whyAt k p=wy at *
        clear hR2 hpf hpre hq1 hq2 hem hwy hxk
        have KS:Hid (∀ w',Below Wd.heap.size Wd w'→_):=Lib.hid (fun w' b=>two_ (E2.below b E2.lt) (E3.below b E3.lt))
        go_upto_region 28 with fail
        have F2:=Blk.dr E2
        have F3:=Blk.dr E3
        have F4:=Blk.dr E4
        obtain ⟨x2,z2⟩:=F2.one_
        obtain ⟨x3,z3⟩:=F3.one_
        obtain ⟨x4,z4⟩:=F4.one_
        refine wp_region_mask (fun w'=>w'.cell? ⟨W.heap.size+1,0,none⟩=some (.int .i64 (k:Nat))∧w'.cell? ⟨W.heap.size+1+1,0,none⟩=some (.int .i64 wy)) 3 1 [2,2,0,0,0] (by kernel_rfl) (by kernel_rfl) (by first | with_reducible exact KS.out _ (bDr (bRefl _)) | exact two_ (Blk.set1 F2 _) (Blk.far F3 (by show W.heap.size+1+1≠W.heap.size+1;omega) _)) ?_
        simp only [pickH,pickT]
        iterate 2 refine wpHeads_r ?_
        refine wpHeads_nil ?_
        iterate 1 (refine wpTailS_cons (fun K hK=>?_);go_simp;(first | (fail) | skip);refine hK.out _ _ (by first | with_reducible exact KS.out _ (bDr (bRefl _)) | exact two_ (Blk.set1 F2 _) (Blk.far F3 (by show W.heap.size+1+1≠W.heap.size+1;omega) _)) (fun hHeld=>?_);clear hHeld hK K;try simp only [Act.put,List.setIfInBounds_toArray,List.set_cons_zero,List.set_cons_succ])
        refine wpTailS_zero ?_
        clear x2 z2 x3 z3 x4 z4
        change wpList _ _ _ _ _ (World.setCell Wd.drew ⟨W.heap.size+1,0,none⟩ (.int .i64 (k:Nat)))
        have G2:Wd.drew.heap[D2]?=some (.deferred (some [])):=hd2
        have G1:Wd.drew.heap[D]?=some (.deferred (some [])):=hd1
        have hbe:=bDr hbd
        clear E2 E3 E4 hd2 hd1 hbd KS
        generalize Wd.drew=we at *
        obtain ⟨x2,z2⟩:=F2.one_
        obtain ⟨x3,z3⟩:=F3.one_
        obtain ⟨x4,z4⟩:=F4.one_
        obtain ⟨e2,e3,e4⟩:=set3_blks F2 F3 F4 (.int .i64 (k:Nat)) (.int .i64 wy) (.int .i64 0)
        have hm2:=set3_mark F2 F3 F4 G2 (.int .i64 (k:Nat)) (.int .i64 wy) (.int .i64 0)
        have hm1:=mark_under (set3_mark F2 F3 F4 G1 (.int .i64 (k:Nat)) (.int .i64 wy) (.int .i64 0)) hDD
        have hbf:=set3_below hbe (.int .i64 (k:Nat)) (.int .i64 wy) (.int .i64 0)
        have f2:=((e2.put (o' := .deferred none) hm2 rfl).put (o' := .deferred none) hm1 rfl).one_.1
        have f3:=((e3.put (o' := .deferred none) hm2 rfl).put (o' := .deferred none) hm1 rfl).one_.1
        have f4:=((e4.put (o' := .deferred none) hm2 rfl).put (o' := .deferred none) hm1 rfl).one_.1
        unfold set3 at f2 f3 f4 hm2 hm1
        go_wp2_with fail
        refine NoPanic.normal ?_
        go_wp2_with fail
        refine leavesM_mark (by simp) hm2 ?_
        refine leavesM_mark (by simp) hm1 ?_
        exact ⟨.tuple #[.int .i64 (k:Nat),.int .i64 wy,.int .i64 0],by simp [results,Tryz.results12,go_sem,f2,f3,f4],ret_chk hv.out,bPut (bPut hbf hD2 _) hD _⟩
       case round2 =>
        clear E1 E2 E3 E4 EG EK BC BR hd9
        rintro l pre x Wd hlen hbd ⟨E1,E2,E3,E4,EG,EK,_⟩ ⟨p,hpf,hp60⟩
        dsimp only at E1 E2 E3 E4 EG EK
        rw [hpf] at EK
        replace EK:Blk Wd kb 3 #[.int .i64 (p:Nat)]:=EK
        dsimp only [offE]
        have hxj:x.val<c.jobs.length:=by rw [hjn];exact x.isLt
        obtain ⟨hXs,hX1⟩:=h.shown_row (some ⟨b,off,none⟩) c.first.length c0 hxj
        have hsh:=h.shown hk3 hxj
        have hsm:(c.jobAt x.val).small:=by
         obtain ⟨jc,hjc⟩:∃ jc,jcs[x.val]?=some jc:=⟨_,List.getElem?_eq_getElem (by rw [h.jlen];exact hxj)⟩
         exact (h.job _ jc hjc).2.2.2
        have hl3:=hsh.hjob.lens3 hsm
        generalize shc (.slice (some ⟨b,off,none⟩) c.first.length c0) c.keys (restL c.keys) jcs c.em x.val=X at *
        gi_upto_region 16 with fail
        apply wpIn_region_lit
        iterate 3 gi_step
        refine wpListIn_store rfl rfl rfl rfl (store_fresh (by rw [hXs];exact shown_info) (by rw [hXs];rfl) hX1) ?_
        refine wpListIn_nil ?_
        have BX:=Blk.new Wd 81 X _ rfl
        have hbx:=bAl (bRefl Wd) (.cells X 81)
        refine ⟨[(Wd.heap.size,81,X)],KeepsOthers.below hbx,KeepsC.below hbx,bCall hbd hbx,⟨BX,E1.below hbx E1.lt,E2.below hbx E2.lt,E3.below hbx E3.lt,E4.below hbx E4.lt,EG.below hbx EG.lt,?_,trivial⟩,?_⟩
        ·show Blk _ _ _ #[.int .i64 (((pre.foldl c.go (some p0)).getD 0:Nat):Int)]
         rw [hpf]
         exact EK.below hbx EK.lt
        clear E1 E2 E3 E4 EG EK BX hbx
        rintro L W2 hb2 ⟨BX,E1,E2,E3,E4,EG,EK,_⟩
        dsimp only at BX E1 E2 E3 E4 EG EK
        rw [hpf] at EK
        replace EK:Blk W2 kb 3 #[.int .i64 (p:Nat)]:=EK
        generalize Wd.heap.size=xb at *
        gi_upto_region 17 with fail
        apply wpIn_region_lit
        refine wpListIn_load rfl rfl rfl (load_blk BX Tryz.underlying81 rfl (by rw [hXs];exact shown_info)) ?_
        have q:=pa_bare_ X (c.jobAt x.val).emptyB W2 hl3
        cases he:(c.jobAt x.val).emptyB
        case true =>
         have hgo:=Lib.hid (c.go_bare hpf he)
         rw [he] at q
         clear he hl3
         gi_wp2_with fail
         refine ⟨trivial,?_⟩
         (with_reducible refine (inR L q).mono ?_)
         rintro e w6 ⟨rfl,b6⟩
         clear q
         gi_wp2_with fail
         refine ⟨KeepsOthers.below b6,KeepsC.below b6,bCall hb2 b6,⟨E1.below b6 E1.lt,E2.below b6 E2.lt,E3.below b6 E3.lt,E4.below b6 E4.lt,EG.below b6 EG.lt,?_,trivial⟩,p,hgo.out,hp60⟩
         show Blk _ _ _ #[.int .i64 ((((pre++[x]).foldl c.go (some p0)).getD 0:Nat):Int)]
         rw [hgo.out]
         exact EK.below b6 EK.lt
        case false =>
         rw [he] at q
         gi_wp2_with fail
         refine ⟨trivial,?_⟩
         (with_reducible refine (inR L q).mono ?_)
         rintro e w6 ⟨rfl,b6⟩
         clear q
         gi_upto_region 18 with fail
         apply wpIn_region_lit
         iterate 6 gi_step
         refine wpListIn_store rfl rfl rfl (v := .agg zeroS.cl.toArray) rfl (store_fresh (by rw [List.size_toArray,Stp.cl_length zeroS_ok];exact step_info) (by have hz74:=Stp.cl_length zeroS_ok;simp only [List.size_toArray,hz74];rfl) (all_oneCell_toArray zeroS.one)) ?_
         have b67:=bAl (bRefl w6) (.cells zeroS.cl.toArray 86)
         have BS:=Blk.new w6 86 zeroS.cl.toArray _ rfl
         have h27:=bCall b6 b67
         have E10:=E1
         have E20:=E2
         have E30:=E3
         have E40:=E4
         have EG0:=EG
         have EK0:=EK
         have BX0:=BX
         replace E1:=E1.below h27 E1.lt
         replace E2:=E2.below h27 E2.lt
         replace E3:=E3.below h27 E3.lt
         replace E4:=E4.below h27 E4.lt
         replace EG:=EG.below h27 EG.lt
         replace EK:=EK.below h27 EK.lt
         replace BX:=BX.below h27 BX.lt
         have hsb2:W2.heap.size≤w6.heap.size:=b6.size
         clear b6 b67
         generalize w6.alloc (.cells zeroS.cl.toArray 86)=w7 at *
         generalize w6.heap.size=sb at *
         have y13:=(E1.cell 13).trans hk13
         by_cases hi:x.val<c.steps.length
         rotate_left 1
         focus
          have hss0:Hid (zeroS=c.stepAt x.val):=by show _=_;unfold Cs.stepAt;rw [List.getD_eq_getElem?_getD,List.getElem?_eq_none (by omega)];rfl
          have hsok0:zeroS.ok:=zeroS_ok
          obtain ⟨s,hse⟩:∃ s,s=zeroS:=⟨_,rfl⟩
          rw [←hse] at hss0 hsok0 BS
          have hss:=hss0
          have hsok:=hsok0
          have i7:¬((x.val:Int)<(c.steps.length:Int)):=by omega
          clear hse hss0 hsok0
          have h28:=h27
          gi_upto_region 21 with fail
          clear y13 hi i7 h27 E10 E20 E30 E40 EG0 EK0 BX0
          obtain ⟨w8,hw8⟩:∃ w8,w8=w7:=⟨_,rfl⟩
          subst hw8
         rotate_left 1
         focus
          obtain ⟨s,hs0⟩:∃ s,Hid (c.steps[x.val]?=some s):=⟨_,Lib.hid (List.getElem?_eq_getElem hi)⟩
          have hss:Hid (s=c.stepAt x.val):=by show _=_;unfold Cs.stepAt;rw [List.getD_eq_getElem?_getD,hs0.out];rfl
          have hsok:s.ok:=h.stepOk s (List.mem_of_getElem? hs0.out)
          have hb7:=bCall hb2 h27
          obtain ⟨bt,offt,hAT,hbt,hct⟩:=(hTd.below hb7).2 (by omega)
          have hrange:w7.rangeAt bt (offt+x.val*74) s.cl:=fun j v hj=>by
           rw [Nat.add_assoc]
           refine hct _ _ ?_
           have hj74:j<74:=by have:=(List.getElem?_eq_some_iff.1 hj).1;rw [Stp.cl_length hsok] at this;exact this
           rw [flat_mem c.steps x.val j s (fun y hy=>Stp.cl_length (h.stepOk y hy)) hs0.out hj74]
           exact hj
          have LS:=run_loadAt_mid (P:=Tryz.prog) w7 bt (offt+x.val*74) 86 s.cl _ hrange Tryz.underlying86 rfl (by rw [Stp.cl_length hsok];exact step_info)
          rw [hAT] at y13
          have i7:(x.val:Int)<(c.steps.length:Int):=by omega
          have i8:(0:Int)≤(x.val:Int):=by omega
          have hsz74:s.cl.toArray.size=74:=by rw [List.size_toArray,Stp.cl_length hsok]
          have hz74:zeroS.cl.toArray.size=74:=by rw [List.size_toArray,Stp.cl_length zeroS_ok]
          have hst:=store_row BS (P:=Tryz.prog) (ty:=86) (X:=s.cl.toArray) (by rw [hsz74];exact step_info) (by rw [hsz74,hz74]) (all_oneCell_toArray s.one)
          clear hct hrange hs0
          gi_upto_region 20 with fail
          apply wpIn_region_lit
          iterate 15 gi_step
          refine wpListIn_load rfl rfl rfl LS ?_
          refine wpListIn_store rfl rfl rfl rfl hst ?_
          have h28:=below_setRow h27 hsb2 s.cl.toArray
          have BS8:Blk (w7.setRow sb s.cl.toArray) sb 86 s.cl.toArray:=setRow_heap w7 sb _ _ 86 _ BS
          clear LS hst y13 hi i7 i8 h27 BS E1 E2 E3 E4 EG EK BX hb7 hAT hbt hsz74 hz74
          have E1:=E10.below h28 E10.lt
          have E2:=E20.below h28 E20.lt
          have E3:=E30.below h28 E30.lt
          have E4:=E40.below h28 E40.lt
          have EG:=EG0.below h28 EG0.lt
          have EK:=EK0.below h28 EK0.lt
          have BX:=BX0.below h28 BX0.lt
          have BS:=BS8
          clear E10 E20 E30 E40 EG0 EK0 BX0 BS8
          generalize w7.setRow sb s.cl.toArray=w8 at *
          gi_upto_region 21 with fail
         all_goals
          have hem:=Lib.hid he
          clear he hl3
          have h2s:Below W2.heap.size W2 w8:=h28
          have hb8:=bCall hb2 h28
          gi_upto_region 21 with fail
          gi_wp2_with fail
          refine ⟨trivial,?_⟩
          (with_reducible refine (inR L (pa_asked w8)).mono ?_)
          rintro e w9 ⟨rfl,rfl⟩
          have BA:=Blk.new w8 90 #[.int .i64 5,.func (.func 58) #[] #[],.int .i64 3,.func (.func 59) #[] #[],.int .i64 4,.func (.func 60) #[] #[]] _ rfl
          have hla:=bAl (bRefl w8) (.cells #[.int .i64 5,.func (.func 58) #[] #[],.int .i64 3,.func (.func 59) #[] #[],.int .i64 4,.func (.func 60) #[] #[]] 90)
          replace E1:=E1.below hla E1.lt
          replace E2:=E2.below hla E2.lt
          replace E3:=E3.below hla E3.lt
          replace E4:=E4.below hla E4.lt
          replace EG:=EG.below hla EG.lt
          replace EK:=EK.below hla EK.lt
          replace BX:=BX.below hla BX.lt
          replace BS:=BS.below hla BS.lt
          have hbl:=bCall hb8 hla
          have h2l:=bCall h28 hla
          generalize w8.alloc (.cells #[.int .i64 5,.func (.func 58) #[] #[],.int .i64 3,.func (.func 59) #[] #[],.int .i64 4,.func (.func 60) #[] #[]] 90)=wl at *
          generalize w8.heap.size=ab at *
          clear hla hb8 h28 h2s
          gi_wp2_with fail
          gi_loopw [97] (fun i wr=>∃ m:Int,i = .int .i64 m∧Below wl.heap.size wl wr∧(m=0∧Hid True∨m=1∧Hid (s.mid ≠ -1)∨m=2∧Hid (s.mid ≠ -1∧strippedB (c.keyAt x.val) (c.inAt x.val) (c.jobAt x.val) p=true)∨m=3∧Hid (c.whyAt x.val p=0∧(0≤s.right.at_∧s.right.at_<(c.inAt x.val).length)))) (fun i _=>3 - (intOf i).toNat)
          case atStart=>exact ⟨0,rfl,bRefl _,.inl ⟨rfl,Lib.hid trivial⟩⟩
          case round =>
           obtain ⟨m,rfl,hbr,(⟨rfl,hq⟩ | ⟨rfl,hq⟩ | ⟨rfl,hq⟩ | ⟨rfl,hq⟩)⟩:=hrel
           ·have y0:wr.cell? ⟨ab,0,none⟩=some (.int .i64 5):=(BA.below hbr BA.lt).cell 0
            have y1:wr.cell? ⟨ab,1,none⟩=some (.func (.func 58) #[] #[]):=(BA.below hbr BA.lt).cell 1
            gi_upto_region 24 with fail
            have BT:=Blk.new wr 90 #[.int .i64 5,.func (.func 58) #[] #[]] _ rfl
            have hbt:=bCall hbr (bAl (bRefl wr) (.cells #[.int .i64 5,.func (.func 58) #[] #[]] 90))
            have htb:wl.heap.size≤wr.heap.size:=hbr.size
            clear y0 y1 hbr
            generalize wr.alloc (.cells #[.int .i64 5,.func (.func 58) #[] #[]] 90)=wt at *
            generalize wr.heap.size=tb at *
            have yt1:wt.cell? ⟨tb,1,none⟩=some (.func (.func 58) #[] #[]):=BT.cell 1
            have LX:=load_blk (BX.below hbt BX.lt) Tryz.underlying81 rfl (by rw [hXs];exact shown_info)
            have LS:=load_blk (BS.below hbt BS.lt) Tryz.underlying86 rfl (by rw [List.size_toArray,Stp.cl_length hsok];exact step_info)
            have yk:wt.cell? ⟨kb,0,none⟩=some (.int .i64 (p:Nat)):=(EK.below hbt EK.lt).cell 0
            have hbw:=bCall hbl hbt
            have q:=pa_asked1 X s.cl.toArray s.mid (.int .i64 (p:Nat)) wt (by rw [List.getElem?_toArray];exact (Stp.cells hsok).2.2.2)
            apply wpIn_region_lit
            iterate 6 gi_step
            refine wpListIn_load rfl rfl rfl LX ?_
            refine wpListIn_load rfl rfl rfl LS ?_
            cases hok:(s.mid != -1)
            ·have hwy:Hid (c.whyAt x.val p=5):=by show _=_;exact Cs.why5 (by rw [←hss.out];simpa using hok)
             rw [hok] at q
             clear LX LS hok
             gi_wp2_with fail
             refine ⟨trivial,?_⟩
             (with_reducible refine (inR L q).mono ?_)
             rintro e wq ⟨rfl,bq⟩
             clear q yk yt1
             have hbq:=bCall hbt bq
             have F2:=E2.below hbq E2.lt
             have F3:=E3.below hbq E3.lt
             have F4:=E4.below hbq E4.lt
             have FT:=BT.below bq BT.lt
             obtain ⟨x2,z2⟩:=F2.one_
             obtain ⟨x3,z3⟩:=F3.one_
             have hs2l:=E2.lt
             have hs3l:=E3.lt
             have KS:Hid (∀ w',Below wq.heap.size wq w'→w'.cell? ⟨tb,0,none⟩=some (.int .i64 5)):=Lib.hid (fun w' b=>(FT.below b FT.lt).cell 0)
             have Kx:Hid (∀ v,(wq.drew.setCell ⟨W.heap.size+1,0,none⟩ v).cell? ⟨tb,0,none⟩=some (.int .i64 5)):=Lib.hid (fun v=>(Blk.far (Blk.dr FT) (by show tb≠W.heap.size+1;omega) v).cell 0)
             have hb11:=bCall hbl hbq
             have kO:KeepsOthers W2 wq:=KeepsOthers.below (bCall h2l hbq)
             gi_upto_region 25 with fail
             refine wpIn_region_mask (fun w'=>w'.cell? ⟨tb,0,none⟩=some (.int .i64 5)) 4 1 [1,1,2,0,0] (by kernel_rfl) (by kernel_rfl) (by first | with_reducible exact KS.out _ (bDr (bRefl _)) | exact Kx.out _) ?_
             simp only [pickH,pickT]
             iterate 2 refine wpHeads_t ?_
             refine wpHeads_r ?_
             refine wpHeads_nil ?_
             iterate 1 (refine wpTailS_cons (fun K hK=>?_);go_simp;(first | (fail) | skip);refine hK.out _ _ (by first | with_reducible exact KS.out _ (bDr (bRefl _)) | exact Kx.out _) (fun hHeld=>?_);clear hHeld hK K;try simp only [Act.put,List.setIfInBounds_toArray,List.set_cons_zero,List.set_cons_succ])
             refine wpTailS_zero ?_
             go_wp2_with fail
             refine NoOut.normal ?_
             gi_wp2_with fail
             refine ⟨kO.trans ((KeepsOthers.setCell _ _ _).trans ((KeepsOthers.setCell _ _ _).trans (KeepsOthers.drew _))),bDr (bSet (bSet hb11 (p:=⟨W.heap.size+1,0,none⟩) (by show W.heap.size≤W.heap.size+1;omega) _) (p:=⟨W.heap.size+1+1,0,none⟩) (by show W.heap.size≤W.heap.size+1+1;omega) _),⟨?_,?_,?_,trivial⟩,rfl,pre,x,p,rfl,hpf,hem.out,by rw [hwy.out];decide⟩
             ·show Blk _ _ _ #[.int .i64 ((legOf (pre++[x]):Nat):Int)]
              rw [legOf_snoc]
              exact Blk.dr ((F2.set1 _).far (by show W.heap.size+1≠W.heap.size+1+1;omega) _)
             ·show Blk _ _ _ #[.int .i64 (c.whyAt (legOf (pre++[x])) (c.atOf p0 (pre++[x])))]
              rw [legOf_snoc,c.atOf_snoc p0 _ _ hpf,hwy.out]
              exact Blk.dr ((F3.far (by show W.heap.size+1+1≠W.heap.size+1;omega) _).set1 _)
             ·exact Blk.dr ((F4.far (by show W.heap.size+1+1+1≠W.heap.size+1;omega) _).far (by show W.heap.size+1+1+1≠W.heap.size+1+1;omega) _)
            ·have hnx:Hid (s.mid ≠ -1):=by show _≠_;simpa using hok
             rw [hok] at q
             clear LX LS hok
             gi_wp2_with fail
             refine ⟨trivial,?_⟩
             (with_reducible refine (inR L q).mono ?_)
             rintro e wq ⟨rfl,bq⟩
             clear q yk yt1
             gi_wp2_with fail
             exact ⟨⟨1,rfl,bCall hbt bq,.inr (.inl ⟨rfl,hnx⟩)⟩,by simp [intOf]⟩
           ·have y0:wr.cell? ⟨ab,2,none⟩=some (.int .i64 3):=(BA.below hbr BA.lt).cell 2
            have y1:wr.cell? ⟨ab,3,none⟩=some (.func (.func 59) #[] #[]):=(BA.below hbr BA.lt).cell 3
            gi_upto_region 24 with fail
            have BT:=Blk.new wr 90 #[.int .i64 3,.func (.func 59) #[] #[]] _ rfl
            have hbt:=bCall hbr (bAl (bRefl wr) (.cells #[.int .i64 3,.func (.func 59) #[] #[]] 90))
            have htb:wl.heap.size≤wr.heap.size:=hbr.size
            clear y0 y1 hbr
            generalize wr.alloc (.cells #[.int .i64 3,.func (.func 59) #[] #[]] 90)=wt at *
            generalize wr.heap.size=tb at *
            have yt1:wt.cell? ⟨tb,1,none⟩=some (.func (.func 59) #[] #[]):=BT.cell 1
            have LX:=load_blk (BX.below hbt BX.lt) Tryz.underlying81 rfl (by rw [hXs];exact shown_info)
            have LS:=load_blk (BS.below hbt BS.lt) Tryz.underlying86 rfl (by rw [List.size_toArray,Stp.cl_length hsok];exact step_info)
            have yk:wt.cell? ⟨kb,0,none⟩=some (.int .i64 (p:Nat)):=(EK.below hbt EK.lt).cell 0
            have hbw:=bCall hbl hbt
            have q:=pa_stripped X s.cl.toArray (c.inAt x.val) (c.keyAt x.val) (c.restAt (x.val+1)) (c.jobAt x.val) p wt ((hsh.below hbw).more hbw.size) hp60 (hG.below hbw)
            apply wpIn_region_lit
            iterate 6 gi_step
            refine wpListIn_load rfl rfl rfl LX ?_
            refine wpListIn_load rfl rfl rfl LS ?_
            cases hok:strippedB (c.keyAt x.val) (c.inAt x.val) (c.jobAt x.val) p
            ·have hwy:Hid (c.whyAt x.val p=3):=by show _=_;exact Cs.why3 (by rw [←hss.out];exact hq.out) hok
             rw [hok] at q
             clear LX LS hok
             gi_wp2_with fail
             refine ⟨trivial,?_⟩
             (with_reducible refine (inR L q).mono ?_)
             rintro e wq ⟨rfl,bq⟩
             clear q yk yt1
             have hbq:=bCall hbt bq
             have F2:=E2.below hbq E2.lt
             have F3:=E3.below hbq E3.lt
             have F4:=E4.below hbq E4.lt
             have FT:=BT.below bq BT.lt
             obtain ⟨x2,z2⟩:=F2.one_
             obtain ⟨x3,z3⟩:=F3.one_
             have hs2l:=E2.lt
             have hs3l:=E3.lt
             have KS:Hid (∀ w',Below wq.heap.size wq w'→w'.cell? ⟨tb,0,none⟩=some (.int .i64 3)):=Lib.hid (fun w' b=>(FT.below b FT.lt).cell 0)
             have Kx:Hid (∀ v,(wq.drew.setCell ⟨W.heap.size+1,0,none⟩ v).cell? ⟨tb,0,none⟩=some (.int .i64 3)):=Lib.hid (fun v=>(Blk.far (Blk.dr FT) (by show tb≠W.heap.size+1;omega) v).cell 0)
             have hb11:=bCall hbl hbq
             have kO:KeepsOthers W2 wq:=KeepsOthers.below (bCall h2l hbq)
             gi_upto_region 25 with fail
             refine wpIn_region_mask (fun w'=>w'.cell? ⟨tb,0,none⟩=some (.int .i64 3)) 4 1 [1,1,2,0,0] (by kernel_rfl) (by kernel_rfl) (by first | with_reducible exact KS.out _ (bDr (bRefl _)) | exact Kx.out _) ?_
             simp only [pickH,pickT]
             iterate 2 refine wpHeads_t ?_
             refine wpHeads_r ?_
             refine wpHeads_nil ?_
             iterate 1 (refine wpTailS_cons (fun K hK=>?_);go_simp;(first | (fail) | skip);refine hK.out _ _ (by first | with_reducible exact KS.out _ (bDr (bRefl _)) | exact Kx.out _) (fun hHeld=>?_);clear hHeld hK K;try simp only [Act.put,List.setIfInBounds_toArray,List.set_cons_zero,List.set_cons_succ])
             refine wpTailS_zero ?_
             go_wp2_with fail
             refine NoOut.normal ?_
             gi_wp2_with fail
             refine ⟨kO.trans ((KeepsOthers.setCell _ _ _).trans ((KeepsOthers.setCell _ _ _).trans (KeepsOthers.drew _))),bDr (bSet (bSet hb11 (p:=⟨W.heap.size+1,0,none⟩) (by show W.heap.size≤W.heap.size+1;omega) _) (p:=⟨W.heap.size+1+1,0,none⟩) (by show W.heap.size≤W.heap.size+1+1;omega) _),⟨?_,?_,?_,trivial⟩,rfl,pre,x,p,rfl,hpf,hem.out,by rw [hwy.out];decide⟩
             ·show Blk _ _ _ #[.int .i64 ((legOf (pre++[x]):Nat):Int)]
              rw [legOf_snoc]
              exact Blk.dr ((F2.set1 _).far (by show W.heap.size+1≠W.heap.size+1+1;omega) _)
             ·show Blk _ _ _ #[.int .i64 (c.whyAt (legOf (pre++[x])) (c.atOf p0 (pre++[x])))]
              rw [legOf_snoc,c.atOf_snoc p0 _ _ hpf,hwy.out]
              exact Blk.dr ((F3.far (by show W.heap.size+1+1≠W.heap.size+1;omega) _).set1 _)
             ·exact Blk.dr ((F4.far (by show W.heap.size+1+1+1≠W.heap.size+1;omega) _).far (by show W.heap.size+1+1+1≠W.heap.size+1+1;omega) _)
            ·have hnx:Hid (s.mid ≠ -1∧strippedB (c.keyAt x.val) (c.inAt x.val) (c.jobAt x.val) p=true):=⟨hq.out,hok⟩
             rw [hok] at q
             clear LX LS hok
             gi_wp2_with fail
             refine ⟨trivial,?_⟩
             (with_reducible refine (inR L q).mono ?_)
             rintro e wq ⟨rfl,bq⟩
             clear q yk yt1
             gi_wp2_with fail
             exact ⟨⟨2,rfl,bCall hbt bq,.inr (.inr (.inl ⟨rfl,hnx⟩))⟩,by simp [intOf]⟩
           ·have y0:wr.cell? ⟨ab,4,none⟩=some (.int .i64 4):=(BA.below hbr BA.lt).cell 4
            have y1:wr.cell? ⟨ab,5,none⟩=some (.func (.func 60) #[] #[]):=(BA.below hbr BA.lt).cell 5
            gi_upto_region 24 with fail
            have BT:=Blk.new wr 90 #[.int .i64 4,.func (.func 60) #[] #[]] _ rfl
            have hbt:=bCall hbr (bAl (bRefl wr) (.cells #[.int .i64 4,.func (.func 60) #[] #[]] 90))
            have htb:wl.heap.size≤wr.heap.size:=hbr.size
            clear y0 y1 hbr
            generalize wr.alloc (.cells #[.int .i64 4,.func (.func 60) #[] #[]] 90)=wt at *
            generalize wr.heap.size=tb at *
            have yt1:wt.cell? ⟨tb,1,none⟩=some (.func (.func 60) #[] #[]):=BT.cell 1
            have LX:=load_blk (BX.below hbt BX.lt) Tryz.underlying81 rfl (by rw [hXs];exact shown_info)
            have LS:=load_blk (BS.below hbt BS.lt) Tryz.underlying86 rfl (by rw [List.size_toArray,Stp.cl_length hsok];exact step_info)
            have yk:wt.cell? ⟨kb,0,none⟩=some (.int .i64 (p:Nat)):=(EK.below hbt EK.lt).cell 0
            have hbw:=bCall hbl hbt
            have q:=pa_opened X (c.inAt x.val) (c.keyAt x.val) (c.restAt (x.val+1)) (c.jobAt x.val) s p wt ((hsh.below hbw).more hbw.size) hsok (stripped_lt hq.out.2).1 (stripped_lt hq.out.2).2 (hG.below hbw)
            apply wpIn_region_lit
            iterate 6 gi_step
            refine wpListIn_load rfl rfl rfl LX ?_
            refine wpListIn_load rfl rfl rfl LS ?_
            cases hok:openedB (c.restAt (x.val+1)) (c.inAt x.val).length (c.jobAt x.val) s p
            ·have hwy:Hid (c.whyAt x.val p=4):=by show _=_;exact Cs.why4 (by rw [←hss.out];exact hq.out.1) hq.out.2 (by rw [←hss.out];exact hok)
             rw [hok] at q
             clear LX LS hok
             gi_wp2_with fail
             refine ⟨trivial,?_⟩
             (with_reducible refine (inR L q).mono ?_)
             rintro e wq ⟨rfl,bq⟩
             clear q yk yt1
             have hbq:=bCall hbt bq
             have F2:=E2.below hbq E2.lt
             have F3:=E3.below hbq E3.lt
             have F4:=E4.below hbq E4.lt
             have FT:=BT.below bq BT.lt
             obtain ⟨x2,z2⟩:=F2.one_
             obtain ⟨x3,z3⟩:=F3.one_
             have hs2l:=E2.lt
             have hs3l:=E3.lt
             have KS:Hid (∀ w',Below wq.heap.size wq w'→w'.cell? ⟨tb,0,none⟩=some (.int .i64 4)):=Lib.hid (fun w' b=>(FT.below b FT.lt).cell 0)
             have Kx:Hid (∀ v,(wq.drew.setCell ⟨W.heap.size+1,0,none⟩ v).cell? ⟨tb,0,none⟩=some (.int .i64 4)):=Lib.hid (fun v=>(Blk.far (Blk.dr FT) (by show tb≠W.heap.size+1;omega) v).cell 0)
             have hb11:=bCall hbl hbq
             have kO:KeepsOthers W2 wq:=KeepsOthers.below (bCall h2l hbq)
             gi_upto_region 25 with fail
             refine wpIn_region_mask (fun w'=>w'.cell? ⟨tb,0,none⟩=some (.int .i64 4)) 4 1 [1,1,2,0,0] (by kernel_rfl) (by kernel_rfl) (by first | with_reducible exact KS.out _ (bDr (bRefl _)) | exact Kx.out _) ?_
             simp only [pickH,pickT]
             iterate 2 refine wpHeads_t ?_
             refine wpHeads_r ?_
             refine wpHeads_nil ?_
             iterate 1 (refine wpTailS_cons (fun K hK=>?_);go_simp;(first | (fail) | skip);refine hK.out _ _ (by first | with_reducible exact KS.out _ (bDr (bRefl _)) | exact Kx.out _) (fun hHeld=>?_);clear hHeld hK K;try simp only [Act.put,List.setIfInBounds_toArray,List.set_cons_zero,List.set_cons_succ])
             refine wpTailS_zero ?_
             go_wp2_with fail
             refine NoOut.normal ?_
             gi_wp2_with fail
             refine ⟨kO.trans ((KeepsOthers.setCell _ _ _).trans ((KeepsOthers.setCell _ _ _).trans (KeepsOthers.drew _))),bDr (bSet (bSet hb11 (p:=⟨W.heap.size+1,0,none⟩) (by show W.heap.size≤W.heap.size+1;omega) _) (p:=⟨W.heap.size+1+1,0,none⟩) (by show W.heap.size≤W.heap.size+1+1;omega) _),⟨?_,?_,?_,trivial⟩,rfl,pre,x,p,rfl,hpf,hem.out,by rw [hwy.out];decide⟩
             ·show Blk _ _ _ #[.int .i64 ((legOf (pre++[x]):Nat):Int)]
              rw [legOf_snoc]
              exact Blk.dr ((F2.set1 _).far (by show W.heap.size+1≠W.heap.size+1+1;omega) _)
             ·show Blk _ _ _ #[.int .i64 (c.whyAt (legOf (pre++[x])) (c.atOf p0 (pre++[x])))]
              rw [legOf_snoc,c.atOf_snoc p0 _ _ hpf,hwy.out]
              exact Blk.dr ((F3.far (by show W.heap.size+1+1≠W.heap.size+1;omega) _).set1 _)
             ·exact Blk.dr ((F4.far (by show W.heap.size+1+1+1≠W.heap.size+1;omega) _).far (by show W.heap.size+1+1+1≠W.heap.size+1+1;omega) _)
            ·have hnx:Hid (c.whyAt x.val p=0∧(0≤s.right.at_∧s.right.at_<(c.inAt x.val).length)):=⟨Cs.why0 (by rw [←hss.out];exact hq.out.1) hq.out.2 (by rw [←hss.out];exact hok),opened_lt hok⟩
             rw [hok] at q
             clear LX LS hok
             gi_wp2_with fail
             refine ⟨trivial,?_⟩
             (with_reducible refine (inR L q).mono ?_)
             rintro e wq ⟨rfl,bq⟩
             clear q yk yt1
             gi_wp2_with fail
             exact ⟨⟨3,rfl,bCall hbt bq,.inr (.inr (.inr ⟨rfl,hnx⟩))⟩,by simp [intOf]⟩
           ·obtain ⟨hw0,ha0,ha1⟩:=hq.out
            have yr:wr.cell? ⟨sb,37,none⟩=some (.int .i64 s.right.at_):=((BS.below hbr BS.lt).cell 37).trans (by rw [List.getElem?_toArray];exact (Stp.cells hsok).2.2.1 0 (by omega))
            have F1:=E1.below hbr E1.lt
            have F2:=E2.below hbr E2.lt
            have F3:=E3.below hbr E3.lt
            have F4:=E4.below hbr E4.lt
            have FG:=EG.below hbr EG.lt
            have FK:=EK.below hbr EK.lt
            obtain ⟨xk,zk⟩:=FK.one_
            have hgo:=Lib.hid (c.go_on hpf hem.out hw0)
            have hbe:=bCall hbl hbr
            have h2e:=bCall h2l hbr
            have hnn:(((s.right.at_).toNat:Nat):Int)=s.right.at_:=Int.toNat_of_nonneg ha0
            have hlen:=inAt_small h hfl (k:=x.val) (by omega)
            have H1:=Lib.hid ha0
            have H2:=Lib.hid ha1
            clear ha0 ha1 hw0
            gi_wp2_with fail
            refine ⟨(KeepsOthers.below h2e).trans (KeepsOthers.setCell _ _ _),(KeepsC.below h2e).set_ (p:=⟨kb,0,none⟩) (fun hh=>hh rfl) _,bSet hbe (p:=⟨kb,0,none⟩) (by show W.heap.size≤kb;omega) _,⟨F1.far (by show W.heap.size≠kb;omega) _,F2.far (by show W.heap.size+1≠kb;omega) _,F3.far (by show W.heap.size+1+1≠kb;omega) _,F4.far (by show W.heap.size+1+1+1≠kb;omega) _,FG.far (by show g≠kb;omega) _,?_,trivial⟩,_,hgo.out,?_⟩
            ·show Blk _ _ _ #[.int .i64 ((((pre++[x]).foldl c.go (some p0)).getD 0:Nat):Int)]
             rw [hgo.out]
             show Blk _ _ _ #[.int .i64 (((c.stepAt x.val).right.at_.toNat:Nat):Int)]
             rw [←hss.out,hnn]
             exact FK.set1 _
            ·rw [←hss.out]
             have:=H2.out
             have:=H1.out
             omega
   case stop =>
    clear B1 B2 B3 B4 BG BC BR hw5 hw4g
    rintro D c' pre Wc hD _ hbc ⟨B2,B3,B4,_⟩ ⟨rfl,hbad⟩ hd
    dsimp only at B2 B3 B4
    have hv:Hid (R=(0,0,550)):=by show _=_;rw [hR];unfold Cs.check;rw [hf,hvd,hbad.out];rfl
    have f2:=(B2.put (o' := .deferred none) hd rfl).one_.1
    have f3:=(B3.put (o' := .deferred none) hd rfl).one_.1
    have f4:=(B4.put (o' := .deferred none) hd rfl).one_.1
    go_wp2_with fail
    refine leavesM_mark (by simp) hd ?_
    exact ⟨.tuple #[.int .i64 0,.int .i64 0,.int .i64 550],by simp [results,Tryz.results12,go_sem,f2,f3,f4],ret_chk hv.out,bPut hbc hD _⟩
end Go.Proofs.YtoeobcmmafncmaaGreatDoor

/- arbiter.worked; walked. -/
import Derived.Test.YtoeobcmmafncmaaGreatDoorSap
import Derived.Test.YtoeobcmmafncmaaGreatDoorSbf
import Derived.Test.YtoeobcmmafncmaaGreatDoorSbh
import Derived.Test.YtoeobcmmafncmaaGreatDoorSaq
set_option maxRecDepth 1000000
set_option maxHeartbeats 16000000
namespace Go.Proofs.YtoeobcmmafncmaaGreatDoor
open Go.RowKit
attribute [local go_sem] Oper.semAt_some
theorem worked_any (A:Option Addr) (n c:Nat) (w:World) :
  Calls Tryz.prog 13 #[.slice A n c] w fun r w' =>
   r = .returned (.func (.func 28) #[] #[.pointer (some ⟨w.heap.size,0,none⟩)])∧w'=w.alloc (.cells #[.slice A n c] 26):=by
 have hmf:∀ (fn:Fn) (first cap:Array Value) (w:World),(Instr.makeFunc fn first cap).run Tryz.prog w = .ok (.func fn first cap) w:=fun _ _ _ _=>rfl
 go_enter Tryz.func13,Tryz.ntmps13
 go_wp2
 go_ret
 exact ⟨rfl,rfl⟩
theorem wpListIn_loadG {F:Fence} {n:Nat} {P:Program} {ops:Array Oper} {rest:List Oper} {o:Oper} {a:Act} {w:World} {Q:Exit→Act→World→Prop} (hgd:Region.wanted o (yielded ops a.tmps)=true) {ty:TypeId} {x:Operand} (ho:o.op = .load ty x) {q v:Value} (hx:a.eval x=q)
  (hl:(Instr.loadAt ty q).run P w = .ok v w) (h:wpListIn F n P ops Q rest (a.put o.dst v) w):wpListIn F n P ops Q (o::rest) a w :=
 BigFrame.wpListIn_want hgd fun K hK=>by
  refine ⟨fun f hf=>(by unfold Oper.about at hf;rw [ho] at hf;cases hf),?_⟩
  have e:=exec_load ho hx hl
  have hs:o.semAt F.round a.eval=execOp a.eval o:=by
   cases F.round with
   | none=>rfl
   | some l=>exact Oper.semAt_some _ _ _ (by rw [ho];intro c h;cases h)
  rw [hs,e]
  exact hK _ _ h
def wk (em:Nat→Bool) (n k:Nat):List (Fin n):=(upto n k).filter (fun i=>!em i.val)
theorem wk_zero (em:Nat→Bool) (n:Nat):wk em n 0=[]:=by simp [wk,upto_zero]
theorem wk_bare {em:Nat→Bool} {n k:Nat} (h:k<n) (he:em k=true):wk em n (k+1)=wk em n k:=by
 unfold wk
 rw [←upto_succ h,List.filter_append]
 simp [he]
theorem wk_work {em:Nat→Bool} {n k:Nat} (h:k<n) (he:em k=false):wk em n k++[⟨k,h⟩]=wk em n (k+1):=by
 unfold wk
 rw [←upto_succ h,List.filter_append]
 simp [he]
theorem wk_length {em:Nat→Bool} {n k:Nat} (h:k≤n):(wk em n k).length≤k:=by
 unfold wk
 refine Nat.le_trans (List.length_filter_le _ _) ?_
 rw [upto_length h];exact Nat.le_refl _
def wkE (jobs:List (Array Value)) {n:Nat} (i:Fin n):Array Value:=#[.int .i64 (i.val:Nat),.agg (jobs.getD i.val #[])]
theorem mix_info:(Tryz.prog.info? 47).map (·.size)=some 5:=by kernel_rfl
theorem wk_loop (L bp B nj cj:Nat) (AJ:Option Addr) (jobs:List (Array Value)) (em:Nat→Bool) (K:Nat→Prop) (J Jx:List (Fin nj)→World→Prop) (W:World) (hbp:K bp) (hKB:∀ k,k<B→K k) (hJ:AbT (fun _=>False) W.heap.size J)
  (hY:∀ pre x W1,J pre W1→pre.length<nj→YieldAt Fence.wide (2+1 - 1) Tryz.prog L (wkE jobs x) W1 fun e W' =>
   (e = .returned (.bool true)∧J (pre++[x]) W'∧KeepsC K W1 W')∨(e = .returned (.bool false)∧Jx (pre++[x]) W'))
  (hBW:B≤W.heap.size) (hB:Blk W bp 26 #[.slice AJ nj cj]) (hJb:Rd W B 49 AJ nj (jobs.flatMap Array.toList)) (hjobs:∀ k jc,jobs[k]?=some jc→JobC jc (em k)) (hjl:jobs.length=nj) (hn:nj≤1000) (h0:J [] W) :
  CallsIn Fence.wide (2+1) Tryz.prog 28 #[.func (.yield L) #[] #[],.pointer (some ⟨bp,0,none⟩)] W fun e W'=>(∃ v,e = .returned v) ∧
   ((∃ ys,ys=wk em nj nj∧J ys W')∨(∃ pre,(∃ k,k<nj∧em k=false∧pre=wk em nj (k+1))∧Jx pre W')):=by
 refine callsIn_of_wp Tryz.func28 rfl trivial ?_ rfl
 simp only [Tryz.ntmps28,List.size_toArray,List.length_cons,List.length_nil,Nat.reduceAdd,Nat.reduceSub,Array.replicate_succ,Array.replicate_zero,List.push_toArray,List.append_toArray,List.nil_append,List.cons_append]
 have d0:W.cell? ⟨bp,0,none⟩=some (.slice AJ nj cj):=hB.cell 0
 gi_wp2
 gi_loopw [8] (fun i wr=>∃ (k:Nat),k≤nj∧i = .int .i64 k∧Blk wr bp 26 #[.slice AJ nj cj]∧Rd wr B 49 AJ nj (jobs.flatMap Array.toList)∧W.heap.size≤wr.heap.size∧J (wk em nj k) wr) (fun i _=>nj - (intOf i).toNat)
 case atStart=>exact ⟨0,Nat.zero_le _,rfl,hB,hJb,Nat.le_refl _,by rw [wk_zero];exact h0⟩
 case round =>
  clear hB hJb h0 d0
  obtain ⟨k,hkn,rfl,hB,hJb,hsz,hJ1⟩:=hrel
  by_cases hlt:k<nj
  ·obtain ⟨jc,hjc⟩:∃ jc,Hid (jobs[k]?=some jc):=⟨_,Lib.hid (List.getElem?_eq_getElem (by omega))⟩
   obtain ⟨hs49,hone,_,hl3⟩:=hjobs k jc hjc.out
   obtain ⟨bj,offj,rfl,hbj,hcj⟩:=hJb.2 (by omega)
   have hrange:wr.rangeAt bj (offj+k*49) jc.toList:=fun j v hj=>by
    rw [Nat.add_assoc]
    refine hcj _ _ ?_
    have hj49:j<49:=by have:=(List.getElem?_eq_some_iff.1 hj).1;simpa [hs49] using this
    rw [flat_mem jobs k j jc (fun y hy=>by obtain ⟨i,hi⟩:=List.getElem?_of_mem hy;simpa using (hjobs i y hi).1) hjc.out hj49]
    exact hj
   have i0:(0:Int)≤(k:Int):=by omega
   have i1:(k:Int)<(nj:Int):=by omega
   refine wpIn_wide.2 ?_
   go_upto_region 2 with fail
   apply wp_region_lit
   iterate 6 go_step
   refine wpList_load_mid rfl 55 (.tmp 11) rfl bj (offj+k*49) rfl jc.toList _ hrange Tryz.underlying55 rfl (by rw [Array.length_toList,hs49];exact job_info) ?_
   rw [Array.toArray_toList]
   iterate 6 go_step
   have hone':jc.all (·.oneCell')=true:=by have:=all_oneCell_toArray hone;simpa using this
   refine wpList_store_row rfl 55 (.tmp 4) (.tmp 12) rfl wr.heap.size jc rfl rfl 55 _ (Blk.new wr _ _ _ rfl) (by rw [hs49];exact job_info) (by rw [hs49];rfl) hone' ?_
   rw [setRow_alloc]
   have BJ:Blk (wr.alloc (.cells jc 55)) wr.heap.size 55 jc:=Blk.new wr _ _ _ rfl
   have hb1:=bAl (bRefl wr) (.cells jc 55)
   generalize wr.alloc (.cells jc 55)=w1 at *
   obtain ⟨mx,hmx⟩:∃ mx,mx=(jc.toList.drop 2).take 5:=⟨_,rfl⟩
   have hmxl:mx.length=5:=by rw [hmx,List.length_take,List.length_drop,Array.length_toList,hs49];rfl
   have hmxi:∀ i,i<5→mx[i]?=jc[2+i]?:=fun i hi=>by rw [hmx,List.getElem?_take,if_pos hi,List.getElem?_drop,Array.getElem?_toList]
   have hmx1:∀ v∈mx,v.oneCell'=true:=fun v hv=>hone v (List.mem_of_mem_drop (List.mem_of_mem_take (hmx▸hv)))
   have hmid:w1.rangeAt wr.heap.size 2 mx:=fun j v hj=>by
    have hj5:j<5:=by have:=(List.getElem?_eq_some_iff.1 hj).1;omega
    rw [BJ.cell,←hmxi j hj5];exact hj
   clear hmx
   have hmone:mx.toArray.all (·.oneCell')=true:=all_oneCell_toArray hmx1
   go_upto_region 3 with fail
   apply wp_region_lit
   iterate 3 go_step
   refine wpList_load_mid rfl 47 (.tmp 13) rfl wr.heap.size 2 rfl mx _ hmid Tryz.underlying47 rfl (by rw [hmxl];exact mix_info) ?_
   iterate 3 go_step
   refine wpList_store_row rfl 47 (.tmp 5) (.tmp 14) rfl w1.heap.size mx.toArray rfl rfl 47 _ (Blk.new w1 _ _ _ rfl) (by rw [List.size_toArray,hmxl];exact mix_info) (by rw [List.size_toArray,List.size_toArray,hmxl];rfl) hmone ?_
   rw [setRow_alloc]
   have BM:=Blk.new w1 47 mx.toArray _ rfl
   have hb2:=bAl hb1 (.cells mx.toArray 47)
   replace BJ:=BJ.alloc (.cells mx.toArray 47)
   generalize w1.alloc (.cells mx.toArray 47)=w2 at *
   generalize w1.heap.size=bm at *
   obtain ⟨A1,n1,c1,A2,n2,c2,A3,n3,c3,h2,h3,h4,l1,l2,l3,hem⟩:=hl3
   have e0:w2.cell? ⟨bm,0,none⟩=some (.slice A1 n1 c1):=(BM.cell 0).trans (by rw [List.getElem?_toArray];exact (hmxi 0 (by omega)).trans h2)
   have e1:w2.cell? ⟨bm,1,none⟩=some (.slice A2 n2 c2):=(BM.cell 1).trans (by rw [List.getElem?_toArray];exact (hmxi 1 (by omega)).trans h3)
   have e2:w2.cell? ⟨bm,2,none⟩=some (.slice A3 n3 c3):=(BM.cell 2).trans (by rw [List.getElem?_toArray];exact (hmxi 2 (by omega)).trans h4)
   have hJ2:=hJ.1 _ _ _ none hJ1 (grownBy_below hb2 none) (by intro r e;cases e)
   have hB2:=hB.below hb2 hB.lt
   have hJb2:=hJb.below (hb2.mono (by omega))
   have hs2:=Nat.le_trans hsz hb2.size
   clear BM hmid hmone hmx1 hmxi hmxl hone' hrange hcj hJ1 hB hJb
   go_upto_region 4 with fail
   cases he:em k
   ·have hp:0<n1+n2+n3:=by
     rw [he] at hem
     have:=of_decide_eq_false hem.symm
     omega
    have hp1:(0:Int)<(n1:Int)+(n2:Int)+(n3:Int):=by omega
    have LX:(Instr.loadAt 55 (.pointer (some ⟨wr.heap.size,0,none⟩))).run Tryz.prog w2 = .ok (.agg jc) w2:=load_blk BJ Tryz.underlying55 rfl (by rw [hs49];exact job_info)
    obtain ⟨fn,tmps,assign,body,hy,hR⟩:=hY (wk em nj k) ⟨k,hlt⟩ w2 hJ2 (Nat.lt_of_le_of_lt (wk_length hkn) hlt)
    have hXe:wkE jobs (⟨k,hlt⟩:Fin nj)=#[.int .i64 (k:Nat),.agg jc]:=by
     unfold wkE
     rw [List.getD_eq_getElem?_getD,hjc.out];rfl
    rw [hXe] at hy
    rw [wk_work hlt he] at hR
    replace he:=Lib.hid he
    clear hY hXe hJ2 hem hp hone
    refine (wpIn_wide (n:=3)).1 ?_
    apply wpIn_region_lit
    iterate 39 gi_step
    iterate 4 gi_step
    refine wpListIn_loadG (by rfl) rfl rfl LX ?_
    gi_wp2
    refine hR.mono ?_
    rintro e W3 (⟨rfl,hJ3,hk3⟩ | ⟨rfl,hJx3⟩)
    ·have hB3:=hk3.blk hbp hB2
     have hJb3:=hk3.rd hKB hJb2
     have hs3:=Nat.le_trans hs2 hk3.1
     clear hy LX e0 e1 e2 BJ hB2 hJb2
     gi_wp2
     go_wp2_with fail
     exact ⟨⟨k+1,by omega,by go_num,hB3,hJb3,hs3,hJ3⟩,by simp [intOf];omega⟩
    ·gi_wp2
     go_wp2_with fail
     refine bodyPost_ret (results_none rfl _ _ _) rfl ?_
     exact ⟨⟨_,rfl⟩,.inr ⟨_,⟨k,hlt,he.out,rfl⟩,hJx3⟩⟩
   ·have hp:n1+n2+n3=0:=by
     rw [he] at hem
     exact of_decide_eq_true hem.symm
    have hp1:¬((0:Int)<(n1:Int)+(n2:Int)+(n3:Int)):=by omega
    have hwk:=Lib.hid (wk_bare hlt he)
    clear hem hp he
    go_wp2_with fail
    exact ⟨⟨k+1,by omega,by go_num,hB2,hJb2,hs2,by rw [hwk.out];exact hJ2⟩,by simp [intOf];omega⟩
  ·gi_wp2
   go_end0
   obtain rfl:k=nj:=by omega
   exact ⟨⟨_,rfl⟩,.inl ⟨_,rfl,hJ1⟩⟩
theorem wk_stops (bp B nj cj:Nat) (AJ:Option Addr) (jobs:List (Array Value)) (em:Nat→Bool) (K:Nat→Prop) (w:World) (hbp:K bp) (hKB:∀ k,k<B→K k)
  (hBW:B≤w.heap.size) (hB:Blk w bp 26 #[.slice AJ nj cj]) (hJb:Rd w B 49 AJ nj (jobs.flatMap Array.toList)) (hjobs:∀ k jc,jobs[k]?=some jc→JobC jc (em k)) (hjl:jobs.length=nj) (hn:nj≤1000) :
  SeqT (fun _=>False) (2+1) Tryz.prog 28 #[.pointer (some ⟨bp,0,none⟩)] (wkE jobs) (KeepsC K) (fun ys=>ys=wk em nj nj) (fun pre=>∃ k,k<nj∧em k=false∧pre=wk em nj (k+1)) nj w:=by
 intro L J Jx W hW hJ _ hY h0
 exact wk_loop L bp B nj cj AJ jobs em K J Jx W hbp hKB hJ hY (Nat.le_trans hBW hW.size) (hB.below hW hB.lt) (hJb.below (hW.mono hBW)) hjobs hjl hn h0
end Go.Proofs.YtoeobcmmafncmaaGreatDoor
namespace Go.Proofs.YtoeobcmmafncmaaGreatDoor
open Go.RowKit
theorem way_leg {c:Cs} : ∀ (f i k:Nat),(c.way f i k).2=0∨∃ l:Nat,i≤l∧l<i+f∧(c.way f i k).1=l
 | 0,_,_ => .inl rfl
 | f+1,i,k=>by
  have hu:c.way (f+1) i k=(if (c.jobAt i).emptyB=true then c.way f (i+1) k else if c.whyAt i k=0 then c.way f (i+1) (c.stepAt i).right.at_.toNat else ((i:Int),c.whyAt i k)):=rfl
  rw [hu]
  split
  ·rcases way_leg (c:=c) f (i+1) k with h | ⟨l,h1,h2,h3⟩
   ·exact .inl h
   ·exact .inr ⟨l,by omega,by omega,h3⟩
  ·split
   ·rcases way_leg (c:=c) f (i+1) (c.stepAt i).right.at_.toNat with h | ⟨l,h1,h2,h3⟩
    ·exact .inl h
    ·exact .inr ⟨l,by omega,by omega,h3⟩
   ·exact .inr ⟨i,Nat.le_refl i,by omega,rfl⟩
theorem check_ok {c:Cs} (h:c.check.2.2=0):c.formed=true∧c.valid=true∧c.bares=true:=by
 unfold Cs.check at h
 split at h
 ·rename_i h1
  split at h
  ·rename_i h2
   split at h
   ·rename_i h3
    exact ⟨h1,h2,h3⟩
   ·exact absurd h (by show ¬(550:Int)=0;omega)
  ·exact absurd h (by show ¬(550:Int)=0;omega)
 ·exact absurd h (by show ¬(550:Int)=0;omega)
theorem check_of {c:Cs} (h1:c.formed=true) (h2:c.valid=true) (h3:c.bares=true) :
  c.check=if c.sealed=true then ((c.way c.keys.length 0 c.place.toNat).1,(c.way c.keys.length 0 c.place.toNat).2,0) else (0,1,0):=by
 unfold Cs.check;rw [if_pos h1,if_pos h2,if_pos h3]
def Cs.with (c:Cs) (l:Nat) (j:Jb):Cs:={ c with jobs:=c.jobs.mapIdx fun i x=>if i≤l then x else j }
theorem check_leg {c:Cs} (h:c.check.2.2=0) (hw:c.check.2.1≠0):∃ l:Nat,c.check.1=l∧l<c.jobs.length:=by
 obtain ⟨h1,h2,h3⟩:=check_ok h
 have hh:=h1
 unfold Cs.formed formedB at hh
 simp only [Bool.and_eq_true,decide_eq_true_eq] at hh
 rw [check_of h1 h2 h3] at hw ⊢
 by_cases hs:c.sealed=true
 ·rw [if_pos hs] at hw ⊢
  rcases way_leg (c:=c) c.keys.length 0 c.place.toNat with h | ⟨l,_,h5,h6⟩
  ·exact absurd h hw
  ·exact ⟨l,h6,by have:=hh.2.2.1;omega⟩
 ·rw [if_neg hs]
  exact ⟨0,rfl,by have:=hh.2.2.1;have:=hh.1;omega⟩
def Cs.other (c:Cs) (i:Nat) (x:Ltr):Cs:={ c with first:=c.first.set i x }
structure CaAt (w:World) (B:Nat) (cs:Array Value) (jcs:List (Array Value)) (a:Ca):Prop where
 c:CaseAt w B cs jcs a.c
 run0:cs[0]?=some (.int .i64 a.line)
 run1:cs[1]?=some (.int .i64 a.at_)
 run2:cs[2]?=some (.int .i64 a.arrive)
 hl:a.hs.length=a.c.jobs.length
 hand:∀ (k:Nat) (jc:Array Value) (h:Hd),jcs[k]?=some jc→a.hs[k]?=some h→∀ (i:Nat) (v:Value),h.cl[i]?=some v→jc[7+i]?=some v
 hok:∀ h∈a.hs,h.ok
 kok:∀ x∈a.c.keys,inI x
 lok:∀ k,∀ x∈(a.c.jobAt k).mo,x.ok
 mlen:∀ k,(a.c.jobAt k).mo.length≤1000
theorem CaAt.below {w w':World} {B:Nat} {cs:Array Value} {jcs:List (Array Value)} {a:Ca} (h:CaAt w B cs jcs a) (b:Below B w w'):CaAt w' B cs jcs a:=⟨h.c.below b,h.run0,h.run1,h.run2,h.hl,h.hand,h.hok,h.kok,h.lok,h.mlen⟩
theorem CaAt.more {w:World} {B B':Nat} {cs:Array Value} {jcs:List (Array Value)} {a:Ca} (h:CaAt w B cs jcs a) (b:B≤B'):CaAt w B' cs jcs a:=⟨h.c.more b,h.run0,h.run1,h.run2,h.hl,h.hand,h.hok,h.kok,h.lok,h.mlen⟩
theorem Ca.right_eq (a:Ca) (l:List Int) (k:Nat):a.right l k=rightB l k a.line a.at_ a.arrive (a.c.keyAt k) (a.c.jobAt k).mo (a.handAt k):=rfl
theorem CaAt.signed {w:World} {cs:Array Value} {jcs:List (Array Value)} {a:Ca} (h:CaAt w w.heap.size cs jcs a) (hG:ShaG w) {l:List Int} {Al:Option Addr} {cl:Nat} (hl:Rd w w.heap.size 1 Al l.length (ints l)) (hln:l.length≤1000) (hkl:a.c.keys.length=l.length) (hjl:a.c.jobs.length=l.length)
  {k:Nat} (hk:k<l.length):Calls Tryz.prog 14 #[.slice Al l.length cl,.agg cs,.int .i64 k,.agg (jcs.getD k #[])] w (Ret (.bool (a.right l k)) w):=by
 obtain ⟨Ak,ck,hc4,hkk⟩:=h.c.keys
 have hjk:k<jcs.length:=by rw [h.c.jlen,hjl];exact hk
 have hjc:jcs[k]?=some jcs[k]:=List.getElem?_eq_getElem hjk
 have hgd:jcs.getD k #[]=jcs[k]:=by rw [List.getD_eq_getElem?_getD,hjc];rfl
 obtain ⟨hs49,hone,hjob,hsm⟩:=h.c.job k _ hjc
 obtain ⟨Am,cm,h4,hmm,_⟩:=hjob.h4
 have hhk:k<a.hs.length:=by rw [h.hl,hjl];exact hk
 have hh:a.hs[k]?=some a.hs[k]:=List.getElem?_eq_getElem hhk
 have hha:a.handAt k=a.hs[k]:=by unfold Ca.handAt;rw [List.getD_eq_getElem?_getD,hh];rfl
 rw [hgd,Ca.right_eq,hha]
 exact ar_signed l Al cl cs a.line a.at_ a.arrive Ak ck a.c.keys k jcs[k] a.hs[k] Am cm (a.c.jobAt k).mo w hl hk (by omega) hln (by omega) h.run0 h.run1 h.run2 hc4 hkk h.kok h4 hmm (h.lok k) (h.mlen k) (h.hand k _ _ hjc hh) (h.hok _ (List.getElem_mem hhk)) hG
theorem firstW_is {P:Nat→Bool} {f x:Nat} (hx:x<f) (hp:P x=true) (hb:∀ k,k<x→P k=false):firstW P f 0=some x:=by
 cases hf:firstW P f 0 with
 | none =>
  rw [firstW_none] at hf
  have:=hf x (Nat.zero_le _) (by omega)
  rw [this] at hp;cases hp
 | some h =>
  obtain ⟨h1,h2,h3,h4⟩:=firstW_some hf
  rcases Nat.lt_trichotomy h x with e | e | e
  ·rw [hb h e] at h3;cases h3
  ·rw [e]
  ·rw [h4 x (Nat.zero_le _) e] at hp;cases hp
theorem wk_right {em R:Nat→Bool} {n k:Nat} (hk:k≤n) (h:∀ x∈wk em n k,R x.val=true):∀ j,j<k→(!em j && !R j)=false:=by
 intro j hj
 cases he:em j
 ·have hm:(⟨j,by omega⟩:Fin n)∈wk em n k:=by
   unfold wk
   refine List.mem_filter.2 ⟨?_,by simp [he]⟩
   unfold upto
   rw [List.mem_take_iff_getElem]
   exact ⟨j,by simp;omega,by simp⟩
  rw [h _ hm];rfl
 ·rfl
def Ca.lim (a:Ca) (l:List Int):Nat:=if a.c.check.2.1=0 then l.length else a.c.check.1.toNat
def lastV {n:Nat} (pre:List (Fin n)):Nat:=(pre.getLast?.map (·.val)).getD 0
theorem lastV_snoc {n:Nat} (pre:List (Fin n)) (x:Fin n):lastV (pre++[x])=x.val:=by simp [lastV]
theorem wk_last {em:Nat→Bool} {n k:Nat} (h:k<n) (he:em k=false):(wk em n (k+1)).dropLast=wk em n k∧lastV (wk em n (k+1))=k:=by
 rw [←wk_work h he]
 exact ⟨by simp,lastV_snoc _ _⟩
theorem judge_hit {a:Ca} {l:List Int} {k:Nat} (hl:lineB l=true) (hkl:l.length=a.c.keys.length) (he:a.c.check.2.2=0) (hw:a.c.check.2.1≠1) (hk:k<a.lim l) (hr:a.wrong l k=true) (hb:∀ j,j<k→a.wrong l j=false):a.judge l=((k:Int),2,0):=by
 have:=firstW_is (P:=a.wrong l) (f:=a.lim l) hk hr hb
 unfold Ca.lim at this
 unfold Ca.judge
 rw [if_pos ⟨hl,hkl⟩,if_neg (by rw [he];simp),if_neg hw,this]
theorem judge_miss {a:Ca} {l:List Int} (hl:lineB l=true) (hkl:l.length=a.c.keys.length) (he:a.c.check.2.2=0) (hw:a.c.check.2.1≠1) (hb:∀ j,j<a.lim l→a.wrong l j=false):a.judge l=if a.c.check.2.1=0 then (-1,0,0) else (a.c.check.1,a.c.check.2.1,0):=by
 have:firstW (a.wrong l) (a.lim l) 0=none:=firstW_none.2 (fun k _ hk=>hb k (by omega))
 unfold Ca.lim at this
 unfold Ca.judge
 rw [if_pos ⟨hl,hkl⟩,if_neg (by rw [he];simp),if_neg hw,this]
theorem judge_bad {a:Ca} {l:List Int} (h:¬(lineB l=true∧l.length=a.c.keys.length)):a.judge l=(0,0,560):=by
 unfold Ca.judge;rw [if_neg h]
theorem judge_err {a:Ca} {l:List Int} (hl:lineB l=true) (hkl:l.length=a.c.keys.length) (he:a.c.check.2.2≠0):a.judge l=(0,0,a.c.check.2.2):=by
 unfold Ca.judge;rw [if_pos ⟨hl,hkl⟩,if_pos he]
theorem judge_send {a:Ca} {l:List Int} (hl:lineB l=true) (hkl:l.length=a.c.keys.length) (he:a.c.check.2.2=0) (hw:a.c.check.2.1=1):a.judge l=(-1,1,0):=by
 unfold Ca.judge;rw [if_pos ⟨hl,hkl⟩,if_neg (by rw [he];simp),if_pos hw]
end Go.Proofs.YtoeobcmmafncmaaGreatDoor

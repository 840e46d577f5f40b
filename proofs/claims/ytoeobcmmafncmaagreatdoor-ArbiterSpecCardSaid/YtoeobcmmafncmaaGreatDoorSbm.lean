/- The reference's FewJob and Few. -/
import Derived.Test.YtoeobcmmafncmaaGreatDoorSas
import Derived.Test.YtoeobcmmafncmaaGreatDoorSbl
set_option maxRecDepth 1000000
set_option maxHeartbeats 16000000
namespace Go.Proofs.YtoeobcmmafncmaaGreatDoor
open Go.RowKit
def Jb.few (j:Jb):Bool:=fewB j.bare.length&&(fewB j.proofs.length&&(fewB j.mi.length&&(fewB j.mm.length&&(fewB j.mo.length&&(fewB j.ml.length&&fewB j.mr.length)))))
theorem fewB_le {n:Nat} (h:fewB n=true):n≤80:=by
 unfold fewB at h
 simp at h
 omega
theorem ref_fewjob (cs:Array Value) (j:Jb) (B:Nat) (W:World) (h:JobAt W B (fun i=>cs[i]?) j):Calls Tryz.prog 10 #[.agg cs] W (Ret (.bool j.few) W):=by
 have B0:=Blk.new W 55 cs _ rfl
 have hb:=bAl (bRefl W) (.cells cs 55)
 obtain ⟨v,hv⟩:∃ v,v=j.few:=⟨_,rfl⟩
 rw [←hv]
 have Hv:=Lib.hid hv
 obtain ⟨A0,c0,h0,-⟩:=h.h0
 obtain ⟨A1,c1,h1,-⟩:=h.h1
 obtain ⟨A2,c2,h2,-⟩:=h.h2
 obtain ⟨A3,c3,h3,-⟩:=h.h3
 obtain ⟨A4,c4,h4,-⟩:=h.h4
 obtain ⟨A5,c5,h5,-⟩:=h.h5
 obtain ⟨A6,c6,h6,-⟩:=h.h6
 have k0:=(B0.cell 0).trans h0
 have k1:=(B0.cell 1).trans h1
 have k2:=(B0.cell 2).trans h2
 have k3:=(B0.cell 3).trans h3
 have k4:=(B0.cell 4).trans h4
 have k5:=(B0.cell 5).trans h5
 have k6:=(B0.cell 6).trans h6
 clear h0 h1 h2 h3 h4 h5 h6 h hv B0
 go_enter Tryz.func10,Tryz.ntmps10
 go_upto_region 1 with fail
 generalize W.alloc (.cells cs 55)=w1 at *
 have q0:=ref_few j.bare.length w1
 cases e0:fewB j.bare.length
 ·have hx:Hid (v=false):=by show _=_;rw [Hv.out];unfold Jb.few;simp [e0]
  rw [e0] at q0
  clear e0
  go_wp2_with fail
  (with_reducible refine q0.mono ?_)
  rintro e w' ⟨rfl,rfl⟩
  go_wp2_with fail
  go_ret
  exact ⟨ret_bool hx.out.symm,hb⟩
 rw [e0] at q0
 have q1:=ref_few j.proofs.length w1
 cases e1:fewB j.proofs.length
 ·have hx:Hid (v=false):=by show _=_;rw [Hv.out];unfold Jb.few;simp [e1]
  rw [e1] at q1
  clear e0 e1
  go_wp2_with fail
  (with_reducible refine q0.mono ?_)
  rintro e w' ⟨rfl,rfl⟩
  go_wp2_with fail
  (with_reducible refine q1.mono ?_)
  rintro e w' ⟨rfl,rfl⟩
  go_wp2_with fail
  go_ret
  exact ⟨ret_bool hx.out.symm,hb⟩
 rw [e1] at q1
 have q2:=ref_few j.mi.length w1
 cases e2:fewB j.mi.length
 ·have hx:Hid (v=false):=by show _=_;rw [Hv.out];unfold Jb.few;simp [e2]
  rw [e2] at q2
  clear e0 e1 e2
  go_wp2_with fail
  (with_reducible refine q0.mono ?_)
  rintro e w' ⟨rfl,rfl⟩
  go_wp2_with fail
  (with_reducible refine q1.mono ?_)
  rintro e w' ⟨rfl,rfl⟩
  go_wp2_with fail
  (with_reducible refine q2.mono ?_)
  rintro e w' ⟨rfl,rfl⟩
  go_wp2_with fail
  go_ret
  exact ⟨ret_bool hx.out.symm,hb⟩
 rw [e2] at q2
 have q3:=ref_few j.mm.length w1
 cases e3:fewB j.mm.length
 ·have hx:Hid (v=false):=by show _=_;rw [Hv.out];unfold Jb.few;simp [e3]
  rw [e3] at q3
  clear e0 e1 e2 e3
  go_wp2_with fail
  (with_reducible refine q0.mono ?_)
  rintro e w' ⟨rfl,rfl⟩
  go_wp2_with fail
  (with_reducible refine q1.mono ?_)
  rintro e w' ⟨rfl,rfl⟩
  go_wp2_with fail
  (with_reducible refine q2.mono ?_)
  rintro e w' ⟨rfl,rfl⟩
  go_wp2_with fail
  (with_reducible refine q3.mono ?_)
  rintro e w' ⟨rfl,rfl⟩
  go_wp2_with fail
  go_ret
  exact ⟨ret_bool hx.out.symm,hb⟩
 rw [e3] at q3
 have q4:=ref_few j.mo.length w1
 cases e4:fewB j.mo.length
 ·have hx:Hid (v=false):=by show _=_;rw [Hv.out];unfold Jb.few;simp [e4]
  rw [e4] at q4
  clear e0 e1 e2 e3 e4
  go_wp2_with fail
  (with_reducible refine q0.mono ?_)
  rintro e w' ⟨rfl,rfl⟩
  go_wp2_with fail
  (with_reducible refine q1.mono ?_)
  rintro e w' ⟨rfl,rfl⟩
  go_wp2_with fail
  (with_reducible refine q2.mono ?_)
  rintro e w' ⟨rfl,rfl⟩
  go_wp2_with fail
  (with_reducible refine q3.mono ?_)
  rintro e w' ⟨rfl,rfl⟩
  go_wp2_with fail
  (with_reducible refine q4.mono ?_)
  rintro e w' ⟨rfl,rfl⟩
  go_wp2_with fail
  go_ret
  exact ⟨ret_bool hx.out.symm,hb⟩
 rw [e4] at q4
 have q5:=ref_few j.ml.length w1
 cases e5:fewB j.ml.length
 ·have hx:Hid (v=false):=by show _=_;rw [Hv.out];unfold Jb.few;simp [e5]
  rw [e5] at q5
  clear e0 e1 e2 e3 e4 e5
  go_wp2_with fail
  (with_reducible refine q0.mono ?_)
  rintro e w' ⟨rfl,rfl⟩
  go_wp2_with fail
  (with_reducible refine q1.mono ?_)
  rintro e w' ⟨rfl,rfl⟩
  go_wp2_with fail
  (with_reducible refine q2.mono ?_)
  rintro e w' ⟨rfl,rfl⟩
  go_wp2_with fail
  (with_reducible refine q3.mono ?_)
  rintro e w' ⟨rfl,rfl⟩
  go_wp2_with fail
  (with_reducible refine q4.mono ?_)
  rintro e w' ⟨rfl,rfl⟩
  go_wp2_with fail
  (with_reducible refine q5.mono ?_)
  rintro e w' ⟨rfl,rfl⟩
  go_wp2_with fail
  go_ret
  exact ⟨ret_bool hx.out.symm,hb⟩
 rw [e5] at q5
 have q6:=ref_few j.mr.length w1
 cases e6:fewB j.mr.length
 ·have hx:Hid (v=false):=by show _=_;rw [Hv.out];unfold Jb.few;simp [e6]
  rw [e6] at q6
  clear e0 e1 e2 e3 e4 e5 e6
  go_wp2_with fail
  (with_reducible refine q0.mono ?_)
  rintro e w' ⟨rfl,rfl⟩
  go_wp2_with fail
  (with_reducible refine q1.mono ?_)
  rintro e w' ⟨rfl,rfl⟩
  go_wp2_with fail
  (with_reducible refine q2.mono ?_)
  rintro e w' ⟨rfl,rfl⟩
  go_wp2_with fail
  (with_reducible refine q3.mono ?_)
  rintro e w' ⟨rfl,rfl⟩
  go_wp2_with fail
  (with_reducible refine q4.mono ?_)
  rintro e w' ⟨rfl,rfl⟩
  go_wp2_with fail
  (with_reducible refine q5.mono ?_)
  rintro e w' ⟨rfl,rfl⟩
  go_wp2_with fail
  (with_reducible refine q6.mono ?_)
  rintro e w' ⟨rfl,rfl⟩
  go_wp2_with fail
  go_ret
  exact ⟨ret_bool hx.out.symm,hb⟩
 rw [e6] at q6
 have hx:Hid (v=true):=by show _=_;rw [Hv.out];unfold Jb.few;simp [e0,e1,e2,e3,e4,e5,e6]
 clear e0 e1 e2 e3 e4 e5 e6
 go_wp2_with fail
 (with_reducible refine q0.mono ?_)
 rintro e w' ⟨rfl,rfl⟩
 go_wp2_with fail
 (with_reducible refine q1.mono ?_)
 rintro e w' ⟨rfl,rfl⟩
 go_wp2_with fail
 (with_reducible refine q2.mono ?_)
 rintro e w' ⟨rfl,rfl⟩
 go_wp2_with fail
 (with_reducible refine q3.mono ?_)
 rintro e w' ⟨rfl,rfl⟩
 go_wp2_with fail
 (with_reducible refine q4.mono ?_)
 rintro e w' ⟨rfl,rfl⟩
 go_wp2_with fail
 (with_reducible refine q5.mono ?_)
 rintro e w' ⟨rfl,rfl⟩
 go_wp2_with fail
 (with_reducible refine q6.mono ?_)
 rintro e w' ⟨rfl,rfl⟩
 go_wp2_with fail
 go_ret
 exact ⟨ret_bool hx.out.symm,hb⟩
def Cs.few (c:Cs):Bool:=(decide (c.keys.length≤4)||decide (9<c.keys.length))&&(decide (c.keys.length≤12)&&(decide (c.jobs.length≤12)&&(decide (c.steps.length≤12)&&(fewB c.first.length&&c.jobs.all Jb.few))))
theorem few_le {c:Cs} (h:c.few=true):c.keys.length≤12∧c.jobs.length≤12∧c.steps.length≤12∧c.first.length≤80:=by
 unfold Cs.few at h
 simp only [Bool.and_eq_true,decide_eq_true_eq] at h
 exact ⟨h.2.1,h.2.2.1,h.2.2.2.1,fewB_le h.2.2.2.2.1⟩
theorem ref_fewcase (cs:Array Value) (jcs:List (Array Value)) (c:Cs) (W:World) (h:CaseAt W W.heap.size cs jcs c):Calls Tryz.prog 5 #[.agg cs] W (Ret (.bool c.few) W):=by
 have B0:=Blk.new W 33 cs _ rfl
 have hb:=bAl (bRefl W) (.cells cs 33)
 obtain ⟨v,hv⟩:∃ v,v=c.few:=⟨_,rfl⟩
 rw [←hv]
 have Hv:=Lib.hid hv
 obtain ⟨A3,c3,h3,-⟩:=h.first
 obtain ⟨A4,c4,h4,-⟩:=h.keys
 obtain ⟨A5,c5,h5,hJ⟩:=h.jobs
 obtain ⟨A13,c13,h13,-⟩:=h.steps
 have k3:=(B0.cell 3).trans h3
 have k4:=(B0.cell 4).trans h4
 have k5:=(B0.cell 5).trans h5
 have k13:=(B0.cell 13).trans h13
 clear hv
 go_enter Tryz.func5,Tryz.ntmps5
 go_upto_region 1 with fail
 generalize W.alloc (.cells cs 33)=w1 at *
 have q:=ref_few c.first.length w1
 by_cases g1:c.keys.length≤4∨9<c.keys.length
 case neg =>
  have hx:Hid (v=false):=by show _=_;rw [Hv.out];unfold Cs.few;rw [decide_eq_false (fun hh=>g1 (.inl hh)),decide_eq_false (fun hh=>g1 (.inr hh))];rfl
  have f1:(4:Int)<(c.keys.length:Int):=by omega
  have f2:(c.keys.length:Int)≤9:=by omega
  clear g1
  go_wp2_with fail
  go_ret
  exact ⟨ret_bool hx.out.symm,hb⟩
 case pos =>
  have hg1:Hid ((decide (c.keys.length≤4)||decide (9<c.keys.length))=true):=by show _=_;rcases g1 with g | g <;> simp [g]
  by_cases g2:c.keys.length≤12
  case neg =>
   have hx:Hid (v=false):=by show _=_;rw [Hv.out];unfold Cs.few;rw [decide_eq_false g2];simp
   have f1:(4:Int)<(c.keys.length:Int):=by omega
   have f2:¬(c.keys.length:Int)≤9:=by omega
   have f3:(12:Int)<(c.keys.length:Int):=by omega
   clear g1 g2
   go_wp2_with fail
   go_ret
   exact ⟨ret_bool hx.out.symm,hb⟩
  by_cases g3:c.jobs.length≤12
  case neg =>
   have hx:Hid (v=false):=by show _=_;rw [Hv.out];unfold Cs.few;rw [decide_eq_false g3];simp
   have f4:(12:Int)<(c.jobs.length:Int):=by omega
   have f3:¬(12:Int)<(c.keys.length:Int):=by omega
   rcases g1 with g | g
   all_goals
    first | have f1:¬(4:Int)<(c.keys.length:Int):=by omega | have f1:(4:Int)<(c.keys.length:Int)∧¬(c.keys.length:Int)≤9:=by omega
    go_wp2_with fail
    go_ret
    exact ⟨ret_bool hx.out.symm,hb⟩
  by_cases g4:c.steps.length≤12
  case neg =>
   have hx:Hid (v=false):=by show _=_;rw [Hv.out];unfold Cs.few;rw [decide_eq_false g4];simp
   have f5:(12:Int)<(c.steps.length:Int):=by omega
   have f4:¬(12:Int)<(c.jobs.length:Int):=by omega
   have f3:¬(12:Int)<(c.keys.length:Int):=by omega
   rcases g1 with g | g
   all_goals
    first | have f1:¬(4:Int)<(c.keys.length:Int):=by omega | have f1:(4:Int)<(c.keys.length:Int)∧¬(c.keys.length:Int)≤9:=by omega
    go_wp2_with fail
    go_ret
    exact ⟨ret_bool hx.out.symm,hb⟩
  have Hw:Hid (v=(fewB c.first.length&&c.jobs.all Jb.few)):=by
   show _=_
   rw [Hv.out];unfold Cs.few
   rw [hg1.out,decide_eq_true g2,decide_eq_true g3,decide_eq_true g4];rfl
  have f5:¬(12:Int)<(c.steps.length:Int):=by omega
  have f4:¬(12:Int)<(c.jobs.length:Int):=by omega
  have f3:¬(12:Int)<(c.keys.length:Int):=by omega
  rcases g1 with g | g
  all_goals
   first | have f1:¬(4:Int)<(c.keys.length:Int):=by omega | have f1:(4:Int)<(c.keys.length:Int)∧¬(c.keys.length:Int)≤9:=by omega
   cases e1:fewB c.first.length
   ·have hx:Hid (v=false):=by show _=_;rw [Hw.out,e1];rfl
    rw [e1] at q
    clear e1 Hw
    go_wp2_with fail
    (with_reducible refine q.mono ?_)
    rintro e w' ⟨rfl,rfl⟩
    go_wp2_with fail
    go_ret
    exact ⟨ret_bool hx.out.symm,hb⟩
   ·have Hx:Hid (v=c.jobs.all Jb.few):=by show _=_;rw [Hw.out,e1];rfl
    rw [e1] at q
    clear e1 Hw
    go_wp2_with fail
    (with_reducible refine q.mono ?_)
    rintro e w' ⟨rfl,rfl⟩
    go_wp2_with fail
    clear k3 k4 k5 k13 q
    go_loopw [3] (fun i wr=>∃ k:Nat,k≤c.jobs.length∧i = .int .i64 k∧Below W.heap.size W wr∧Blk wr W.heap.size 33 cs∧Hid (∀ y∈c.jobs.take k,y.few=true)) (fun i _=>c.jobs.length - (intOf i).toNat)
    case atStart=>exact ⟨0,Nat.zero_le _,rfl,hb,B0,Lib.hid (by simp)⟩
    case round =>
     clear B0 hb f1
     obtain ⟨k,hkn,rfl,hb,B0,hp⟩:=hrel
     have k5:=(B0.cell 5).trans h5
     by_cases hlt:k<c.jobs.length
     ·obtain ⟨jc,hjc⟩:∃ jc,Hid (jcs[k]?=some jc):=⟨_,Lib.hid (List.getElem?_eq_getElem (by rw [h.jlen];exact hlt))⟩
      obtain ⟨y,hy⟩:∃ y,Hid (c.jobs[k]?=some y):=⟨_,Lib.hid (List.getElem?_eq_getElem hlt)⟩
      have hyj:c.jobAt k=y:=by unfold Cs.jobAt;rw [List.getD_eq_getElem?_getD,hy.out];rfl
      obtain ⟨a1,a2,a3,a4⟩:=h.job k jc hjc.out
      rw [hyj] at a3
      obtain ⟨bj,offj,hA5,hbj,hcj⟩:=hJ.2 (by omega)
      rw [hA5] at k5
      clear hA5
      have hrange:wr.rangeAt bj (offj+k*49) jc.toList:=fun j u hj=>by
       rw [Nat.add_assoc,hb.cell (p:=⟨bj,offj+(k*49+j),none⟩) hbj]
       refine hcj _ _ ?_
       have hj49:j<49:=by have:=(List.getElem?_eq_some_iff.1 hj).1;simpa [a1] using this
       rw [flat_mem jcs k j jc (fun z hz=>by obtain ⟨i,hi⟩:=List.getElem?_of_mem hz;simpa using (h.job i z hi).1) hjc.out hj49]
       exact hj
      have q:=ref_fewjob jc y W.heap.size wr (a3.below hb)
      have i0:(0:Int)≤(k:Int):=by omega
      have i1:(k:Int)<(c.jobs.length:Int):=by omega
      cases hf:y.few
      ·have hx:Hid (v=false):=by
        show _=_
        rw [Hx.out]
        exact List.all_eq_false.2 ⟨y,List.mem_of_getElem? hy.out,by rw [hf];simp⟩
       rw [hf] at q
       clear hf
       go_upto_region 6 with fail
       apply wp_region_lit
       iterate 12 go_step
       refine wpList_load_mid rfl 55 (.tmp 50) rfl bj (offj+k*49) rfl jc.toList _ hrange Tryz.underlying55 rfl (by rw [Array.length_toList,a1];exact job_info) ?_
       rw [Array.toArray_toList]
       clear hrange hcj
       go_wp2_with fail
       (with_reducible refine q.mono ?_)
       rintro e w' ⟨rfl,b'⟩
       go_wp2_with fail
       go_ret
       exact ⟨ret_bool hx.out.symm,bCall hb b'⟩
      ·have hp':Hid (∀ z∈c.jobs.take (k+1),z.few=true):=by
        intro z hz
        obtain ⟨hk,rfl⟩:=List.getElem?_eq_some_iff.1 hy.out
        rw [List.take_succ_eq_append_getElem hk] at hz
        rcases List.mem_append.1 hz with hz | hz
        ·exact hp.out z hz
        ·obtain rfl:z=c.jobs[k]:=by simpa using hz
         exact hf
       rw [hf] at q
       clear hf
       go_upto_region 6 with fail
       apply wp_region_lit
       iterate 12 go_step
       refine wpList_load_mid rfl 55 (.tmp 50) rfl bj (offj+k*49) rfl jc.toList _ hrange Tryz.underlying55 rfl (by rw [Array.length_toList,a1];exact job_info) ?_
       rw [Array.toArray_toList]
       clear hrange hcj
       go_wp2_with fail
       (with_reducible refine q.mono ?_)
       rintro e w' ⟨rfl,b'⟩
       go_wp2_with fail
       exact ⟨⟨k+1,by omega,by go_num,bCall hb b',B0.below b' B0.lt,hp'⟩,by simp [intOf];omega⟩
     ·have hx:Hid (v=true):=by
       show _=_
       rw [Hx.out]
       exact List.all_eq_true.2 (by have:=hp.out;rw [List.take_of_length_le (by omega)] at this;exact this)
      go_wp2_with fail
      go_ret
      exact ⟨ret_bool hx.out.symm,hb⟩
theorem CaseAt.jobLoad {w:World} {B:Nat} {cs:Array Value} {jcs:List (Array Value)} {c:Cs} (h:CaseAt w B cs jcs c) (hn:0<c.jobs.length) :
  ∃ b off cj,cs[5]?=some (.slice (some ⟨b,off,none⟩) c.jobs.length cj)∧b<B∧∀ k jc,jcs[k]?=some jc →
   (Instr.loadAt 55 (.pointer (some ⟨b,off+k*49,none⟩))).run Tryz.prog w = .ok (.agg jc) w∧∀ j u,jc[j]?=some u→w.cell? ⟨b,off+k*49+j,none⟩=some u:=by
 obtain ⟨A,cj,h5,hJ⟩:=h.jobs
 obtain ⟨b,off,rfl,hb,hc⟩:=hJ.2 hn
 refine ⟨b,off,cj,h5,hb,fun k jc hjc=>?_⟩
 obtain ⟨a1,a2,a3,a4⟩:=h.job k jc hjc
 have hr:∀ j u,jc.toList[j]?=some u→w.cell? ⟨b,off+k*49+j,none⟩=some u:=fun j u hj=>by
  rw [Nat.add_assoc]
  refine hc _ _ ?_
  have hj49:j<49:=by have:=(List.getElem?_eq_some_iff.1 hj).1;simpa [a1] using this
  rw [flat_mem jcs k j jc (fun z hz=>by obtain ⟨i,hi⟩:=List.getElem?_of_mem hz;simpa using (h.job i z hi).1) hjc hj49]
  exact hj
 refine ⟨?_,fun j u hj=>hr j u (by simpa using hj)⟩
 have:=run_loadAt_mid (P:=Tryz.prog) w b (off+k*49) 55 jc.toList _ hr Tryz.underlying55 rfl (by rw [Array.length_toList,a1];exact job_info)
 rwa [Array.toArray_toList] at this
def RetLs (l:List Ltr) (W:World) (r:Ending) (w':World):Prop:=∃ A c,r = .returned (.slice A l.length c)∧Below W.heap.size W w'∧Rd w' w'.heap.size 6 A l.length (l.flatMap Ltr.cl)∧l.length≤c∧c≤9223372036854775807
theorem ref_batch (cs:Array Value) (jcs:List (Array Value)) (c:Cs) (k:Nat) (W:World) (h:CaseAt W W.heap.size cs jcs c) (hk:k≤c.jobs.length) (hn:c.jobs.length≤1000) :
  Calls Tryz.prog 40 #[.agg cs,.int .i64 (k:Nat)] W (RetLs (c.inAt k) W):=by
 have B0:=Blk.new W 33 cs _ rfl
 have hb:=bAl (bRefl W) (.cells cs 33)
 cases k with
 | zero =>
  obtain ⟨A3,c3,h3,r3,l3,l4⟩:=h.first
  have k3:=(B0.cell 3).trans h3
  go_enter Tryz.func40,Tryz.ntmps40
  go_upto_region 1 with fail
  generalize W.alloc (.cells cs 33)=w1 at *
  go_wp2_with fail
  go_ret
  exact ⟨_,_,rfl,hb,(r3.below hb).more hb.size,l3,l4⟩
 | succ m =>
  obtain ⟨bj,oj,cj,h5,hbj,hL⟩:=h.jobLoad (by omega)
  obtain ⟨jc,hjc⟩:∃ jc,jcs[m]?=some jc:=⟨_,List.getElem?_eq_getElem (by rw [h.jlen];omega)⟩
  obtain ⟨a1,a2,a3,a4⟩:=h.job m jc hjc
  have h5k:=h5
  have k5:=(B0.cell 5).trans h5
  have hL2:=((h.below hb).more hb.size).jobLoad (by omega)
  obtain ⟨bj',oj',cj',h5',hbj',hL'⟩:=hL2
  have e:=h5.symm.trans h5'
  injection e with e
  injection e with e1 _ e3
  injection e1 with e1
  injection e1 with e1 e2
  subst e1;subst e2;subst e3
  obtain ⟨LJ,hcell⟩:=hL' m jc hjc
  have hL3:∀ w,Below W.heap.size W w→∀ j u,jc[j]?=some u→w.cell? ⟨bj,oj+m*49+j,none⟩=some u:=fun w hw j u hj=>(hw.cell (p:=⟨bj,oj+m*49+j,none⟩) hbj).trans ((hL m jc hjc).2 j u hj)
  have q:=fun w=>ref_empty jc (c.jobAt m).emptyB w (a3.lens3 a4)
  have f0:((m:Int)+1==0)=false:=by rw [beq_eq_false_iff_ne];omega
  have f1:IntKind.i64.wrap ((m:Int)+1 - 1)=(m:Int):=by rw [IntKind.wrap_i64];omega
  have f3:(0:Int)≤(m:Int):=by omega
  have f4:(m:Int)<(c.jobs.length:Int):=by omega
  obtain ⟨A0,c0,k0,r0,l0,l0'⟩:=a3.h0
  obtain ⟨A4,c4,k4,r4,l4,l4'⟩:=a3.h4
  have hin:c.inAt (m+1)=nextL (c.jobAt m):=rfl
  clear h5 h5' hbj' hL'
  go_enter Tryz.func40,Tryz.ntmps40
  go_upto_region 1 with fail
  generalize W.alloc (.cells cs 33)=w1 at *
  go_upto_region 3 with fail
  apply wp_region_lit
  iterate 15 go_step
  refine wpList_loadG (by rfl) (by rfl) (by rfl) LJ ?_
  simp only [Act.put,List.setIfInBounds_toArray,List.set_cons_zero,List.set_cons_succ]
  cases hem:(c.jobAt m).emptyB
  all_goals
   rw [hem] at q
   go_wp2_with fail
   (with_reducible refine (q _).mono ?_)
   rintro e w2 ⟨rfl,b2⟩
   have hb2:=bCall hb b2
   have B2:=B0.below b2 B0.lt
   have k5:=(B2.cell 5).trans (show cs[5]?=_ from h5k)
   clear q b2 B0 hb LJ
  ·have m4:=hL3 w2 hb2 4 _ k4
   go_wp2_with fail
   go_ret
   refine ⟨A4,c4,?_,hb2,?_,?_,l4'⟩
   ·rw [hin];unfold nextL;rw [hem];rfl
   ·rw [hin];unfold nextL;rw [hem];exact (r4.below hb2).more hb2.size
   ·rw [hin];unfold nextL;rw [hem];exact l4
  ·have m0:=hL3 w2 hb2 0 _ k0
   rw [Nat.add_zero] at m0
   go_wp2_with fail
   go_ret
   refine ⟨A0,c0,?_,hb2,?_,?_,l0'⟩
   ·rw [hin];unfold nextL;rw [hem];rfl
   ·rw [hin];unfold nextL;rw [hem];exact (r0.below hb2).more hb2.size
   ·rw [hin];unfold nextL;rw [hem];exact l0
end Go.Proofs.YtoeobcmmafncmaaGreatDoor

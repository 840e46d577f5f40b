/- frankingref20.Index, frankingref56.offices; walked. -/
import Derived.Test.YtoeobcmmafncmaaGreatDoorSaq
import Derived.Test.YtoeobcmmafncmaaGreatDoorSar
import Derived.Test.YtoeobcmmafncmaaGreatDoorSaz
set_option maxRecDepth 1000000
set_option maxHeartbeats 16000000
namespace Go.Proofs.YtoeobcmmafncmaaGreatDoor
open Go.RowKit
theorem ref_index20 (A:Option Addr) (c:Nat) (l:List Int) (x:Int) (W:World) (hA:Rd W W.heap.size 1 A l.length (ints l)) (hn:l.length≤1000) :
  Calls Tryz.prog 35 #[.slice A l.length c,.int .i64 x] W (Same (.int .i64 (idxI x l)) W):=by
 go_enter Tryz.func35,Tryz.ntmps35
 go_wp2_with fail
 go_loopw [5] (fun i wr=>∃ k:Nat,k≤l.length∧i = .int .i64 k∧wr=W∧Hid (∀ y∈l.take k,x≠y)) (fun i _=>l.length - (intOf i).toNat)
 case atStart=>exact ⟨0,Nat.zero_le _,rfl,rfl,Lib.hid (fun y hy=>by simp at hy)⟩
 case round =>
  obtain ⟨k,hkn,rfl,rfl,hp⟩:=hrel
  by_cases hlt:k<l.length
  ·obtain ⟨y,hy⟩:∃ y,Hid (l[k]?=some y):=⟨_,Lib.hid (List.getElem?_eq_getElem hlt)⟩
   obtain ⟨b,off,rfl,hbb,d0⟩:=Int_at hA hlt hy.out
   have i0:(0:Int)≤(k:Int):=by omega
   have i1:(k:Int)<(l.length:Int):=by omega
   by_cases hxy:y=x
   ·have t:(y==x)=true:=by rw [beq_iff_eq];exact hxy
    have hres:Hid (idxI x l=(k:Int)):=Lib.hid (idxI_hit hp.out (by rw [hy.out,hxy]))
    clear hxy
    go_wp2_with fail
    go_ret
    exact ⟨by rw [hres.out];rfl,rfl⟩
   ·have t:(y==x)=false:=by rw [beq_eq_false_iff_ne];exact hxy
    have hp2:Hid (∀ z∈l.take (k+1),x≠z):=Lib.hid (fun z hz=>by
     obtain ⟨hk',rfl⟩:=List.getElem?_eq_some_iff.1 hy.out
     rw [List.take_succ_eq_append_getElem hk'] at hz
     rcases List.mem_append.1 hz with hz | hz
     ·exact hp.out z hz
     ·simp at hz
      subst hz
      exact fun e=>hxy e.symm)
    clear hxy
    go_wp2_with fail
    exact ⟨⟨k+1,by omega,by go_num,trivial,hp2⟩,by simp [intOf];omega⟩
  ·have i1:¬(k:Int)<(l.length:Int):=by omega
   have hres:Hid (idxI x l = -1):=Lib.hid (idxI_none (fun y hy=>hp.out y (by rw [List.take_of_length_le (by omega)];exact hy)))
   go_wp2_with fail
   go_ret
   exact ⟨by rw [hres.out];rfl,rfl⟩
theorem ref_offices56 (A:Option Addr) (c:Nat) (l:List Int) (n:Nat) (W:World) (hA:Rd W W.heap.size 1 A l.length (ints l)) (hn:l.length≤1000) (hc:l.length≤c) (hc2:c≤9223372036854775807) :
  Calls Tryz.prog 15 #[.slice A l.length c,.int .i64 (n:Nat)] W (Ret (.bool (lineB l&&((l.length:Int)==(n:Int)))) W):=by
 go_enter Tryz.func15,Tryz.ntmps15
 go_wp2_with fail
 go_loopw [5] (fun i wr=>∃ k:Nat,k≤l.length∧i = .int .i64 k∧Below W.heap.size W wr∧Hid (∀ j,j<k→lineAt l j=true)) (fun i _=>l.length - (intOf i).toNat)
 case atStart=>exact ⟨0,Nat.zero_le _,rfl,bRefl _,Lib.hid (fun j hj=>by omega)⟩
 case round =>
  obtain ⟨k,hkn,rfl,hb,hp⟩:=hrel
  by_cases hlt:k<l.length
  ·obtain ⟨y,hy⟩:∃ y,Hid (l[k]?=some y):=⟨_,Lib.hid (List.getElem?_eq_getElem hlt)⟩
   have hyg:Hid (l.getD k 0=y):=Lib.hid (by simp [List.getD,hy.out])
   obtain ⟨b,off,rfl,hbb,d0⟩:=Int_at hA hlt hy.out
   have KS:Hid (∀ w',Below wr.heap.size wr w'→w'.cell? ⟨b,off+k,none⟩=some (.int .i64 y)):=Lib.hid (fun w' h=>((bCall hb h).cell (p:=⟨b,off+k,none⟩) hbb).trans d0)
   have i0:(0:Int)≤(k:Int):=by omega
   have i1:(k:Int)<(l.length:Int):=by omega
   clear d0
   by_cases h0:y<0
   ·have hres:Hid (lineB l=false):=Lib.hid (lineB_no hlt (by unfold lineAt;rw [hyg.out,decide_eq_false (by omega)];rfl))
    have t1:decide (y<0)=true:=decide_eq_true h0
    go_upto_region 4 with fail
    refine wp_region_schB (f:=22) KS [(0,1),(1,1),(2,1),(3,2),(4,1),(5,1),(6,1),(7,1),(8,1),(9,1),(10,1),(11,1),(12,1),(13,1),(14,1),(15,1),(16,1),(17,1),(18,1),(19,1),(20,1),(21,1),(22,3)] ?_
    simp only [pickS,List.getElem?_cons_zero,List.getElem?_cons_succ]
    iterate 3 refine wpSched_t ?_
    refine wpSched_r ?_
    iterate 2 refine wpSched_t ?_
    iterate 5 refine wpSched_p ?_
    iterate 2 refine wpSched_t ?_
    iterate 9 refine wpSched_p ?_
    refine wpSched_last ?_
    first | simp only [List.map_nil] | simp only [List.map_cons,List.map_nil]
    go_wp2_with fail
    refine NoPanic.normal ?_
    go_wp2_with fail
    go_ret
    exact ⟨ret_bool (by rw [hres.out];rfl),bDr hb⟩
   have t1:decide (y<0)=false:=decide_eq_false h0
   by_cases h1:24≤y
   ·have hres:Hid (lineB l=false):=Lib.hid (lineB_no hlt (by unfold lineAt;rw [hyg.out,decide_eq_false (by omega)];rfl))
    have t2:decide (24≤y)=true:=decide_eq_true h1
    go_upto_region 4 with fail
    refine wp_region_schB (f:=22) KS [(0,1),(1,1),(2,1),(3,2),(4,1),(5,1),(6,1),(7,1),(8,1),(9,2),(10,1),(11,1),(12,1),(13,1),(14,1),(15,1),(16,1),(17,1),(18,1),(19,1),(20,1),(21,1),(22,3)] ?_
    simp only [pickS,List.getElem?_cons_zero,List.getElem?_cons_succ]
    iterate 3 refine wpSched_t ?_
    refine wpSched_r ?_
    iterate 5 refine wpSched_t ?_
    refine wpSched_r ?_
    iterate 3 refine wpSched_t ?_
    iterate 9 refine wpSched_p ?_
    refine wpSched_last ?_
    first | simp only [List.map_nil] | simp only [List.map_cons,List.map_nil]
    go_wp2_with fail
    refine NoPanic.normal ?_
    go_wp2_with fail
    go_ret
    exact ⟨ret_bool (by rw [hres.out];rfl),bDr hb⟩
   have t2:decide (24≤y)=false:=decide_eq_false h1
   have hl:(l.take k).length=k:=by rw [List.length_take];omega
   have hR:=hA.pre k (by omega)
   have hR2:Rd W W.heap.size 1 (some ⟨b,off,none⟩) (l.take k).length (ints (l.take k)):=by rw [hl,ints,List.map_take];simpa [ints] using hR
   have q:Hid (∀ w,Below wr.heap.size wr w→Calls Tryz.prog 35 #[.slice (some ⟨b,off,none⟩) k c,.int .i64 y] w (Same (.int .i64 (idxI y (l.take k))) w)):=Lib.hid (fun w hw=>by
    have:=ref_index20 (some ⟨b,off,none⟩) c (l.take k) y w ((hR2.below (bCall hb hw)).more (bCall hb hw).size) (by omega)
    rwa [hl] at this)
   have hat:Hid (lineAt l k=!decide (idxI y (l.take k) ≥ 0)):=Lib.hid (by
    unfold lineAt;rw [hyg.out,decide_eq_true (by omega),Bool.true_and,idxI_has])
   have hkc:(k:Int)≤(c:Int):=by omega
   clear hR hR2 hl
   generalize idxI y (l.take k)=r at *
   by_cases hr:0≤r
   ·have hres:Hid (lineB l=false):=Lib.hid (lineB_no hlt (by rw [hat.out,decide_eq_true (show r ≥ 0 from hr)];rfl))
    have t3:decide (0≤r)=true:=decide_eq_true hr
    go_upto_region 4 with fail
    refine wp_region_schB (f:=22) KS [(0,1),(1,1),(2,1),(3,2),(4,1),(5,1),(6,1),(7,1),(8,1),(9,2),(10,1),(11,1),(12,1),(13,1),(14,1),(15,1),(16,1),(17,1),(18,1),(19,2),(20,0),(21,1),(22,3)] ?_
    simp only [pickS,List.getElem?_cons_zero,List.getElem?_cons_succ]
    iterate 3 refine wpSched_t ?_
    refine wpSched_r ?_
    iterate 5 refine wpSched_t ?_
    refine wpSched_r ?_
    iterate 9 refine wpSched_t ?_
    refine wpSched_r ?_
    refine wpSched_force (fun K hK=>?_)
    go_simp;(first | (go_at_call 35;(with_reducible refine (q.out wr.drew (bDr (bRefl _))).mono ?_);rintro e w7 ⟨rfl,rfl⟩;have B7:Below wr.heap.size wr wr.drew:=bDr (bRefl _)) | skip)
    refine shut_go hK KS ?_
    clear hK K
    refine wpSched_t ?_
    refine wpSched_last ?_
    first | simp only [List.map_nil] | simp only [List.map_cons,List.map_nil]
    go_wp2_with fail
    refine NoPanic.normal ?_
    go_wp2_with fail
    go_ret
    exact ⟨ret_bool (by rw [hres.out];rfl),bCall hb B7⟩
   ·have hp':Hid (∀ j,j<k+1→lineAt l j=true):=Lib.hid (fun j hj=>by
     by_cases hjk:j=k
     ·subst hjk;rw [hat.out,decide_eq_false (show ¬r ≥ 0 from hr)];rfl
     ·exact hp.out j (by omega))
    have t3:decide (0≤r)=false:=decide_eq_false hr
    go_upto_region 4 with fail
    refine wp_region_schB (f:=22) KS [(0,1),(1,1),(2,1),(3,2),(4,1),(5,1),(6,1),(7,1),(8,1),(9,2),(10,1),(11,1),(12,1),(13,1),(14,1),(15,1),(16,1),(17,1),(18,1),(19,2),(20,0),(21,1),(22,3)] ?_
    simp only [pickS,List.getElem?_cons_zero,List.getElem?_cons_succ]
    iterate 3 refine wpSched_t ?_
    refine wpSched_r ?_
    iterate 5 refine wpSched_t ?_
    refine wpSched_r ?_
    iterate 9 refine wpSched_t ?_
    refine wpSched_r ?_
    refine wpSched_force (fun K hK=>?_)
    go_simp;(first | (go_at_call 35;(with_reducible refine (q.out wr.drew (bDr (bRefl _))).mono ?_);rintro e w7 ⟨rfl,rfl⟩;have B7:Below wr.heap.size wr wr.drew:=bDr (bRefl _)) | skip)
    refine shut_go hK KS ?_
    clear hK K
    refine wpSched_t ?_
    refine wpSched_last ?_
    first | simp only [List.map_nil] | simp only [List.map_cons,List.map_nil]
    go_wp2_with fail
    refine NoPanic.normal ?_
    go_wp2_with fail
    exact ⟨⟨k+1,by omega,by go_num,bCall hb B7,hp'⟩,by simp [intOf];omega⟩
  ·have i1:¬(k:Int)<(l.length:Int):=by omega
   have hres:Hid (lineB l=true):=Lib.hid (lineB_yes (fun j hj=>hp.out j (by omega)))
   go_wp2_with fail
   go_ret
   exact ⟨ret_bool (by rw [hres.out];rfl),hb⟩
end Go.Proofs.YtoeobcmmafncmaaGreatDoor
namespace Go.Proofs.YtoeobcmmafncmaaGreatDoor
open Go Go.RowKit
section
variable {P:Program} {ops:Array Oper} {Q:Exit→Act→World→Prop} {md:Region.Mode} {S:World→Prop} {f:Nat}
def schedOkT (md:Region.Mode) (ops:Array Oper) (f:Nat):List (Nat×Nat)→Array Bool→Bool
 | [],listed=>(Region.ready md ops listed).isEmpty
 | (k,0)::s,listed=>decide (Region.ready md ops listed=[k])&&schedOkT md ops f s (listed.setIfInBounds k true)
 | (k,1)::s,listed=>(Region.ready md ops listed).contains k&&Region.free md ops listed k&&cloB md ops listed&&decide (k≠f)&&schedOkT md ops f s (listed.setIfInBounds k true)
 | (k,2)::s,listed=>(Region.ready md ops listed).contains k&&Region.free md ops listed k&&cloB md ops listed&&decide (k≠f)&&roadB md ops f k (findRoad md ops f 6 k)&&schedOkT md ops f s (listed.setIfInBounds k true)
 | (k,3)::s,listed=>decide (Region.ready md ops listed=[k])&&(listed.setIfInBounds k true).getD f true&&schedOkT md ops f s (listed.setIfInBounds k true)
 | (k,_+4)::s,listed=>match s with
  | [(j,_)]=>decide (Region.ready md ops listed=[k,j])&&(decide (Region.ready md ops (listed.setIfInBounds k true)=[j])&&(decide (Region.ready md ops (listed.setIfInBounds j true)=[k])&&(decide (Region.ready md ops ((listed.setIfInBounds k true).setIfInBounds j true)=[])&&(decide (Region.ready md ops ((listed.setIfInBounds j true).setIfInBounds k true)=[])&&((listed.setIfInBounds k true).getD f true&&((listed.setIfInBounds j true).getD f true&&(((listed.setIfInBounds k true).setIfInBounds j true).getD f true&&((listed.setIfInBounds j true).setIfInBounds k true).getD f true)))))))
  | _=>false
def wpSchedT (P:Program) (ops:Array Oper) (Q:Exit→Act→World→Prop) (S:World→Prop):List (Nat×Oper)→Act→World→Prop
 | [],a,w=>Q .normal a w
 | (0,o)::l,a,w=>if Region.wanted o (yielded ops a.tmps)=true then Oper.wp P o a w (fun a' w'=>S w'∧wpSchedT P ops Q S l a' w') Q else (S w∧wpSchedT P ops Q S l (a.put o.dst undef) w)
 | (1,o)::l,a,w=>∃ v,YieldsIf P ops (fun _=>True) o v a∧wpSchedT P ops Q S l (a.put o.dst v) w
 | (2,o)::l,a,w=>∃ v,YieldsIf P ops S o v a∧wpSchedT P ops Q S l (a.put o.dst v) w
 | (3,o)::l,a,w=>if Region.wanted o (yielded ops a.tmps)=true then Oper.wp P o a w (fun a' w'=>wpSchedT P ops Q S l a' w') Q else wpSchedT P ops Q S l (a.put o.dst undef) w
 | (_+4,o)::l,a,w=>wpList P ops Q (o::l.map (·.2)) a w∧wpList P ops Q (l.map (·.2)++[o]) a w
theorem any_one {listed:Array Bool} {j:Nat} {o:Oper} {a:Act} {w:World} (h1:Region.ready md ops listed=[j]) (h2:Region.ready md ops (listed.setIfInBounds j true)=[]) (h3:(listed.setIfInBounds j true).getD f true=true) (ho:ops[j]?=some o)
  (h:wpList P ops Q [o] a w):wpAnyU P md ops Q S f 1 listed a w:=by
 refine ⟨fun h0=>(by rw [h1] at h0;cases h0),fun i hi=>?_⟩
 rw [h1] at hi
 obtain rfl:i=j:=by simpa using hi
 have hw:wpOp P ops Q i (wpList P ops Q []) a w:=by unfold wpOp;simp only [ho];exact h
 exact wpOp_mono (fun a' w' h'=>⟨fun h0=>(by rw [h3] at h0;cases h0),wpAnyU_done h2 h' 0⟩) hw
theorem any_two {listed:Array Bool} {k j:Nat} {o o':Oper} {a:Act} {w:World} (h1:Region.ready md ops listed=[k,j]) (k1:Region.ready md ops (listed.setIfInBounds k true)=[j]) (j1:Region.ready md ops (listed.setIfInBounds j true)=[k])
  (k2:Region.ready md ops ((listed.setIfInBounds k true).setIfInBounds j true)=[]) (j2:Region.ready md ops ((listed.setIfInBounds j true).setIfInBounds k true)=[])
  (k3:(listed.setIfInBounds k true).getD f true=true) (j3:(listed.setIfInBounds j true).getD f true=true)
  (k4:((listed.setIfInBounds k true).setIfInBounds j true).getD f true=true) (j4:((listed.setIfInBounds j true).setIfInBounds k true).getD f true=true)
  (ho:ops[k]?=some o) (ho':ops[j]?=some o') (h:wpList P ops Q [o,o'] a w) (h':wpList P ops Q [o',o] a w):wpAnyU P md ops Q S f 2 listed a w:=by
 refine ⟨fun h0=>(by rw [h1] at h0;cases h0),fun i hi=>?_⟩
 rw [h1] at hi
 rcases List.mem_cons.1 hi with rfl | hi
 ·have hw:wpOp P ops Q i (wpList P ops Q [o']) a w:=by unfold wpOp;simp only [ho];exact h
  exact wpOp_mono (fun a' w' hx=>⟨fun h0=>(by rw [k3] at h0;cases h0),any_one k1 k2 k4 ho' hx⟩) hw
 ·obtain rfl:i=j:=by simpa using hi
  have hw:wpOp P ops Q i (wpList P ops Q [o]) a w:=by unfold wpOp;simp only [ho'];exact h'
  exact wpOp_mono (fun a' w' hx=>⟨fun h0=>(by rw [j3] at h0;cases h0),any_one j1 j2 j4 ho hx⟩) hw
theorem sched_anyT (hs:Region.noSelect ops=true) (hQ:∀ d v c a w,Q (.panic c) (Act.put a d v) w→Q (.panic c) a w):∀ (s:List (Nat×Nat)) (listed:Array Bool) (a:Act) (w:World),
  schedOkT md ops f s listed=true→(listed.getD f true=false→S w)→wpSchedT P ops Q S (pickS s ops.toList) a w→wpAnyU P md ops Q S f s.length listed a w
 | [],listed,a,w,hB,_,h=>wpAnyU_done (by simpa [schedOkT] using hB) h _
 | (k,0)::s,listed,a,w,hB,hS,h=>by
  simp only [schedOkT,Bool.and_eq_true,decide_eq_true_eq] at hB
  obtain ⟨o,ho⟩:=ready_some (md:=md) (ops:=ops) (listed:=listed) (k:=k) (by rw [hB.1];simp)
  have ho':ops.toList[k]?=some o:=by simpa using ho
  simp only [pickS,ho',wpSchedT] at h
  refine ⟨fun h0=>(by rw [hB.1] at h0;cases h0),fun j hj=>?_⟩
  rw [hB.1] at hj
  obtain rfl:j=k:=by simpa using hj
  have hw:wpOp P ops Q j (fun a' w'=>S w'∧wpSchedT P ops Q S (pickS s ops.toList) a' w') a w:=by
   unfold wpOp
   simp only [ho]
   split at h
   ·rename_i c;rw [if_pos c];exact .inl h
   ·rename_i c;rw [if_neg c];exact h
  exact wpOp_mono (fun a' w' h'=>⟨fun _=>h'.1,sched_anyT hs hQ s _ a' w' hB.2 (fun _=>h'.1) h'.2⟩) hw
 | (k,1)::s,listed,a,w,hB,hS,h=>by
  simp only [schedOkT,Bool.and_eq_true,decide_eq_true_eq] at hB
  obtain ⟨⟨⟨⟨h1,h2⟩,h3⟩,h4⟩,h5⟩:=hB
  obtain ⟨o,ho⟩:=ready_some (md:=md) (ops:=ops) (listed:=listed) (k:=k) (by simpa using h1)
  have ho':ops.toList[k]?=some o:=by simpa using ho
  simp only [pickS,ho',wpSchedT] at h
  obtain ⟨v,hv,h⟩:=h
  exact wpAnyU_first (T:=fun _=>True) ho (Region.noSelect_spec hs) (hQ _ _) h4 (fun _ _ _ _ _=>trivial) s.length listed a w (clo_spec h3) (Region.free_spec ho h2) (by simpa using h1) hv hS
   (sched_anyT hs hQ s _ _ w h5 (fun hf=>hS (by rw [getD_set_ne true h4] at hf;exact hf)) h)
 | (k,2)::s,listed,a,w,hB,hS,h=>by
  simp only [schedOkT,Bool.and_eq_true,decide_eq_true_eq] at hB
  obtain ⟨⟨⟨⟨⟨h1,h2⟩,h3⟩,h4⟩,h6⟩,h5⟩:=hB
  obtain ⟨o,ho⟩:=ready_some (md:=md) (ops:=ops) (listed:=listed) (k:=k) (by simpa using h1)
  have ho':ops.toList[k]?=some o:=by simpa using ho
  simp only [pickS,ho',wpSchedT] at h
  obtain ⟨v,hv,h⟩:=h
  exact wpAnyU_first (T:=S) ho (Region.noSelect_spec hs) (hQ _ _) h4 (fun _ _ hc hu hS=>hS (road_spec hc _ k h6 hu)) s.length listed a w (clo_spec h3) (Region.free_spec ho h2) (by simpa using h1) hv hS
   (sched_anyT hs hQ s _ _ w h5 (fun hf=>hS (by rw [getD_set_ne true h4] at hf;exact hf)) h)
 | (k,3)::s,listed,a,w,hB,hS,h=>by
  simp only [schedOkT,Bool.and_eq_true,decide_eq_true_eq] at hB
  obtain ⟨⟨h1,h2⟩,h3⟩:=hB
  obtain ⟨o,ho⟩:=ready_some (md:=md) (ops:=ops) (listed:=listed) (k:=k) (by rw [h1];simp)
  have ho':ops.toList[k]?=some o:=by simpa using ho
  simp only [pickS,ho',wpSchedT] at h
  refine ⟨fun h0=>(by rw [h1] at h0;cases h0),fun j hj=>?_⟩
  rw [h1] at hj
  obtain rfl:j=k:=by simpa using hj
  have hw:wpOp P ops Q j (wpSchedT P ops Q S (pickS s ops.toList)) a w:=by
   unfold wpOp
   simp only [ho]
   split at h
   ·rename_i c;rw [if_pos c];exact .inl h
   ·rename_i c;rw [if_neg c];exact h
  exact wpOp_mono (fun a' w' h'=>⟨fun h0=>(by rw [h2] at h0;cases h0),sched_anyT hs hQ s _ a' w' h3 (fun h0=>(by rw [h2] at h0;cases h0)) h'⟩) hw
 | [(k,t+4)],listed,a,w,hB,hS,h=>by simp [schedOkT] at hB
 | (k,t+4)::x::y::s,listed,a,w,hB,hS,h=>by simp [schedOkT] at hB
 | [(k,t+4),(j,u)],listed,a,w,hB,hS,h=>by
  simp only [schedOkT,Bool.and_eq_true,decide_eq_true_eq] at hB
  obtain ⟨h1,k1,j1,k2,j2,k3,j3,k4,j4⟩:=hB
  obtain ⟨o,ho⟩:=ready_some (md:=md) (ops:=ops) (listed:=listed) (k:=k) (by rw [h1];simp)
  obtain ⟨o',hj⟩:=ready_some (md:=md) (ops:=ops) (listed:=listed) (k:=j) (by rw [h1];simp)
  have ho':ops.toList[k]?=some o:=by simpa using ho
  have hj':ops.toList[j]?=some o':=by simpa using hj
  simp only [pickS,ho',hj',wpSchedT,List.map_cons,List.map_nil,List.cons_append,List.nil_append] at h
  exact any_two h1 k1 j1 k2 j2 k3 j3 k4 j4 ho hj h.1 h.2
def scheduledT (md:Region.Mode) (ops:Array Oper) (f:Nat) (s:List (Nat×Nat)):Bool :=
 Region.noSelect ops&&decide (s.length=ops.size)&&schedOkT md ops f s (Array.replicate ops.size false)
theorem wp_region_schT {id:Nat} {l:List Oper} {a:Act} {w w0:World} {f:Nat} (KS:Hid (∀ w',Below w0.heap.size w0 w'→S w')) (s:List (Nat×Nat)) (h:wpSchedT P l.toArray (NoPanic Q) S (pickS s l) a w.drew)
  (hm:P.follows .mixedOrders=true:=by kernel_rfl) (hB:scheduledT .any l.toArray f s=true:=by kernel_rfl)
  (hb:Below w0.heap.size w0 w.drew:=by (repeat (first | with_reducible assumption | with_reducible exact bRefl _ | with_reducible refine bDr ?_ | with_reducible refine bAl ?_ _))):(Code.region id l.toArray true).wp P Q a w:=by
 simp only [scheduledT,Bool.and_eq_true,decide_eq_true_eq] at hB
 obtain ⟨⟨h1,h2⟩,h3⟩:=hB
 refine wp_region_noPanic (wp_region_any hm ?_)
 have:=sched_anyT (md := .any) (f:=f) (Q:=NoPanic Q) (ops:=l.toArray) h1 (fun _ _ _ _ _ h=>h) s _ a w.drew h3 (fun _=>KS.out _ hb) (by simpa using h)
 have:=wpAny_of_until _ _ _ _ this
 rw [h2] at this
 exact this
end
section
variable {P:Program} {ops:Array Oper} {Q:Exit→Act→World→Prop} {S:World→Prop} {o:Oper} {l:List (Nat×Oper)} {a a':Act} {w w0:World} {v:Value}
theorem wpSchedT_t (h:wpSchedT P ops Q S l a' w) (hw:Region.wanted o (yielded ops a.tmps)=true:=by rfl)
  (hv:∀ w,(execOp a.eval o).run P w = .ok (.value v) w:=by intro w;go_simp;try with_reducible rfl)
  (ht:a.put o.dst v=a':=by (try simp only [Act.put,List.setIfInBounds_toArray,List.set_cons_zero,List.set_cons_succ]) <;> with_reducible rfl):wpSchedT P ops Q S ((1,o)::l) a w:=by
 subst ht
 exact ⟨v,.inl ⟨hw,fun w _=>hv w⟩,h⟩
theorem wpSchedT_r (h:wpSchedT P ops Q S l a' w) (hw:Region.wanted o (yielded ops a.tmps)=true:=by rfl)
  (hv:∀ w,S w→(execOp a.eval o).run P w = .ok (.value v) w:=by intro w hSw;go_simp;try with_reducible rfl)
  (ht:a.put o.dst v=a':=by (try simp only [Act.put,List.setIfInBounds_toArray,List.set_cons_zero,List.set_cons_succ]) <;> with_reducible rfl):wpSchedT P ops Q S ((2,o)::l) a w:=by
 subst ht
 exact ⟨v,.inl ⟨hw,hv⟩,h⟩
theorem wpSchedT_force (h:∀ K':Act→World→Prop,Shut (∀ a w,S w→(S w→wpSchedT P ops Q S l a w)→K' a w)→if Region.wanted o (yielded ops a.tmps)=true then Oper.wp P o a w K' Q else K' (a.put o.dst undef) w) :
  wpSchedT P ops Q S ((0,o)::l) a w:=h _ (fun _ _ hS hW=>⟨hS,hW hS⟩)
theorem wpSchedT_on (h:∀ K':Act→World→Prop,Shut (∀ a w,wpSchedT P ops Q S l a w→K' a w)→if Region.wanted o (yielded ops a.tmps)=true then Oper.wp P o a w K' Q else K' (a.put o.dst undef) w) :
  wpSchedT P ops Q S ((3,o)::l) a w:=h _ (fun _ _ hW=>hW)
theorem shut_on {X:Act→World→Prop} {K:Act→World→Prop} (hK:Shut (∀ a w,X a w→K a w)) (h:X a' w) (ht:a=a':=by (try simp only [Act.put,List.setIfInBounds_toArray,List.set_cons_zero,List.set_cons_succ]) <;> with_reducible rfl):K a w:=by
 subst ht
 exact hK.out _ _ h
theorem wpSchedT_two {t:Nat} (h1:wpList P ops Q (o::l.map (·.2)) a w) (h2:wpList P ops Q (l.map (·.2)++[o]) a w):wpSchedT P ops Q S ((t+4,o)::l) a w:=⟨h1,h2⟩
end
end Go.Proofs.YtoeobcmmafncmaaGreatDoor

/- elgamal: Again, Seal. -/
import Derived.Test.YtoeobcmmafncmaaGreatDoorSaj
import Derived.Test.YtoeobcmmafncmaaGreatDoorSai
import Derived.Test.YtoeobcmmafncmaaGreatDoorSag
import Derived.Deep.RegionHeld3
set_option maxRecDepth 1000000
set_option maxHeartbeats 16000000
namespace Go.Proofs.YtoeobcmmafncmaaGreatDoor
open Go.RowKit
def moreL (key r0 r1 r2:Int) (x:Ltr):Ltr:=moreU key r0 r1 r2 (moreU key r0 r1 r2 (moreU key r0 r1 r2 x 0) 1) 2
def againV (key:Int) (x:Ltr) (r0 r1 r2:Int):Ltr:=if validB key=true then (if x.good=true then moreL key r0 r1 r2 x else zeroL) else zeroL
def againE (key:Int) (x:Ltr):Int:=if validB key=true then (if x.good=true then 0 else 100) else 90
theorem three {w:World} {b:Nat} {t:TypeId} {v0 v1 v2:Value} (h:Blk w b t #[v0,v1,v2]):w.cell? ⟨b,0,none⟩=some v0∧w.cell? ⟨b,1,none⟩=some v1∧w.cell? ⟨b,2,none⟩=some v2:=⟨h.cell 0,h.cell 1,h.cell 2⟩
theorem nine {w w':World} {b c:Nat} {t u:TypeId} {v0 v1 v2 v3 v4 v5 s0 s1 s2:Value} (h:Blk w b t #[v0,v1,v2,v3,v4,v5]) (k:Blk w c u #[s0,s1,s2]) (B:Below w.heap.size w w') :
  (w'.cell? ⟨b,0,none⟩=some v0∧w'.cell? ⟨b,1,none⟩=some v1∧w'.cell? ⟨b,2,none⟩=some v2∧w'.cell? ⟨b,3,none⟩=some v3∧w'.cell? ⟨b,4,none⟩=some v4∧w'.cell? ⟨b,5,none⟩=some v5) ∧
  w'.cell? ⟨c,0,none⟩=some s0∧w'.cell? ⟨c,1,none⟩=some s1∧w'.cell? ⟨c,2,none⟩=some s2:=⟨(h.below B h.lt).six,three (k.below B k.lt)⟩
theorem more_made (key r0 r1 r2:Int) (x:Ltr) (hin:x.inP) (w:World) :
  Calls Tryz.prog 45 #[x.agg,.slice (some ⟨w.heap.size+1+1,0,none⟩) 1 1]
   (((w.alloc (.cells #[.int .i64 key] 3)).alloc (.cells #[.int .i64 r0,.int .i64 r1,.int .i64 r2] 27)).alloc (.cells #[.func (.func 81) #[] #[.pointer (some ⟨w.heap.size+1,0,none⟩),.pointer (some ⟨w.heap.size,0,none⟩)]] 102))
   (Ret (moreL key r0 r1 r2 x).agg (((w.alloc (.cells #[.int .i64 key] 3)).alloc (.cells #[.int .i64 r0,.int .i64 r1,.int .i64 r2] 27)).alloc (.cells #[.func (.func 81) #[] #[.pointer (some ⟨w.heap.size+1,0,none⟩),.pointer (some ⟨w.heap.size,0,none⟩)]] 102))):=by
 have BK:=((Blk.new w 3 #[.int .i64 key] _ rfl).alloc (.cells #[.int .i64 r0,.int .i64 r1,.int .i64 r2] 27)).alloc (.cells #[.func (.func 81) #[] #[.pointer (some ⟨w.heap.size+1,0,none⟩),.pointer (some ⟨w.heap.size,0,none⟩)]] 102)
 have BR:=(Blk.new (w.alloc (.cells #[.int .i64 key] 3)) 27 #[.int .i64 r0,.int .i64 r1,.int .i64 r2] (w.heap.size+1) (by simp)).alloc (.cells #[.func (.func 81) #[] #[.pointer (some ⟨w.heap.size+1,0,none⟩),.pointer (some ⟨w.heap.size,0,none⟩)]] 102)
 have BN:=Blk.new ((w.alloc (.cells #[.int .i64 key] 3)).alloc (.cells #[.int .i64 r0,.int .i64 r1,.int .i64 r2] 27)) 102 #[.func (.func 81) #[] #[.pointer (some ⟨w.heap.size+1,0,none⟩),.pointer (some ⟨w.heap.size,0,none⟩)]] (w.heap.size+1+1) (by simp)
 exact el_changed (moreU key r0 r1 r2) Ltr.inP (moreU_inP key r0 r1 r2) x hin 81 (.inr rfl) _ _ _ BN (more_chg key r0 r1 r2 _ _ _ BK BR)
theorem more_drew (key r0 r1 r2:Int) (x:Ltr) (hin:x.inP) (w:World) :
  Calls Tryz.prog 45 #[x.agg,.slice (some ⟨w.heap.size+1+1,0,none⟩) 1 1]
   (((w.alloc (.cells #[.int .i64 key] 3)).alloc (.cells #[.int .i64 r0,.int .i64 r1,.int .i64 r2] 27)).alloc (.cells #[.func (.func 81) #[] #[.pointer (some ⟨w.heap.size+1,0,none⟩),.pointer (some ⟨w.heap.size,0,none⟩)]] 102)).drew
   (Ret (moreL key r0 r1 r2 x).agg (((w.alloc (.cells #[.int .i64 key] 3)).alloc (.cells #[.int .i64 r0,.int .i64 r1,.int .i64 r2] 27)).alloc (.cells #[.func (.func 81) #[] #[.pointer (some ⟨w.heap.size+1,0,none⟩),.pointer (some ⟨w.heap.size,0,none⟩)]] 102)).drew) :=
 more_made key r0 r1 r2 x hin w.drew
theorem el_again (key:Int) (x:Ltr) (r0 r1 r2:Int) (W:World) :
  Calls Tryz.prog 129 #[.int .i64 key,x.agg,.agg #[.int .i64 r0,.int .i64 r1,.int .i64 r2]] W (Ret (.tuple #[(againV key x r0 r1 r2).agg,.int .i64 (againE key x)]) W):=by
 obtain ⟨W3,hW3⟩:∃ W3,W3=((W.alloc (.cells #[.int .i64 x.a0,.int .i64 x.b0,.int .i64 x.a1,.int .i64 x.b1,.int .i64 x.a2,.int .i64 x.b2] 70)).alloc (.cells #[.int .i64 r0,.int .i64 r1,.int .i64 r2] 27)).alloc (.cells #[.int .i64 0,.int .i64 0,.int .i64 0,.int .i64 0,.int .i64 0,.int .i64 0] 70):=⟨_,rfl⟩
 have h3:Below W.heap.size W W3:=by rw [hW3];exact bAl (bAl (bAl (bRefl W) _) _) _
 obtain ⟨v,hv⟩:∃ v,v=againV key x r0 r1 r2:=⟨_,rfl⟩
 obtain ⟨er,her⟩:∃ v,v=againE key x:=⟨_,rfl⟩
 rw [←hv,←her]
 have B3:Blk W3 W.heap.size 70 #[.int .i64 x.a0,.int .i64 x.b0,.int .i64 x.a1,.int .i64 x.b1,.int .i64 x.a2,.int .i64 x.b2]:=by rw [hW3];exact ((Blk.new _ _ _ _ rfl).alloc _).alloc _
 have B2:Blk W3 (W.heap.size+1) 27 #[.int .i64 r0,.int .i64 r1,.int .i64 r2]:=by rw [hW3];exact (Blk.new _ _ _ _ (by simp)).alloc _
 have B4:Blk W3 (W.heap.size+1+1) 70 #[.int .i64 0,.int .i64 0,.int .i64 0,.int .i64 0,.int .i64 0,.int .i64 0]:=by rw [hW3];exact Blk.new _ _ _ _ (by simp)
 have q:=group_valid key W3
 cases hs:validB key
 ·have Hv:Hid (v=zeroL):=by show _=_;rw [hv];exact if_neg (by simp [hs])
  have He:Hid (er=90):=by show _=_;rw [her];exact if_neg (by simp [hs])
  rw [hs] at q
  have C5:=B4.set6 (.int .i64 0) (.int .i64 0) (.int .i64 0) (.int .i64 0) (.int .i64 0) (.int .i64 0)
  have h5:=bSet6 (b:=W.heap.size+1+1) h3 (by omega) (.int .i64 0) (.int .i64 0) (.int .i64 0) (.int .i64 0) (.int .i64 0) (.int .i64 0)
  clear hv her hs B2 B3
  go_enter Tryz.func129,Tryz.ntmps129
  unfold Ltr.agg
  go_upto_region 1 with fail
  rw [←hW3]
  clear hW3
  obtain ⟨m0,m1,m2,m3,m4,m5⟩:=B4.six
  obtain ⟨z0,z1,z2,z3,z4,z5⟩:=B4.six_free
  go_wp2_with fail
  (with_reducible refine q.mono ?_)
  rintro e w' ⟨rfl,rfl⟩
  clear q
  go_wp2_with fail
  change bodyPost _ _ _ _ _ (set6 W3 (W.heap.size+1+1) (.int .i64 0) (.int .i64 0) (.int .i64 0) (.int .i64 0) (.int .i64 0) (.int .i64 0))
  obtain ⟨e0,e1,e2,e3,e4,e5⟩:=C5.six
  exact bodyPost_ret (v := .tuple #[zeroL.agg,.int .i64 90]) (by simp [results,Tryz.results129,go_sem,zeroL,Ltr.agg,e0,e1,e2,e3,e4,e5]) rfl ⟨ret_li Hv.out He.out,h5⟩
 ·rw [hs] at q
  have q2:=el_check x W3
  cases hg:x.good
  ·have Hv:Hid (v=zeroL):=by show _=_;rw [hv];unfold againV;rw [hs,hg];rfl
   have He:Hid (er=100):=by show _=_;rw [her];unfold againE;rw [hs,hg];rfl
   have hx:x.err=100:=by unfold Ltr.err;rw [hg];rfl
   rw [hx] at q2
   clear hv her hs hg hx
   go_enter Tryz.func129,Tryz.ntmps129
   unfold Ltr.agg
   go_upto_region 1 with fail
   rw [←hW3]
   clear hW3
   obtain ⟨k0,k1,k2,k3,k4,k5⟩:=B3.six
   go_wp2_with fail
   (with_reducible refine q.mono ?_)
   rintro e w' ⟨rfl,rfl⟩
   clear q
   go_wp2_with fail
   (with_reducible refine q2.mono ?_)
   rintro e w4 ⟨rfl,b4⟩
   clear q2
   have h4:=bCall h3 b4
   have C4:=B4.below b4 B4.lt
   clear k0 k1 k2 k3 k4 k5
   obtain ⟨m0,m1,m2,m3,m4,m5⟩:=C4.six
   obtain ⟨z0,z1,z2,z3,z4,z5⟩:=C4.six_free
   have C5:=C4.set6 (.int .i64 0) (.int .i64 0) (.int .i64 0) (.int .i64 0) (.int .i64 0) (.int .i64 0)
   have h5:=bSet6 (b:=W.heap.size+1+1) h4 (by omega) (.int .i64 0) (.int .i64 0) (.int .i64 0) (.int .i64 0) (.int .i64 0) (.int .i64 0)
   go_wp2_with fail
   change bodyPost _ _ _ _ _ (set6 w4 (W.heap.size+1+1) (.int .i64 0) (.int .i64 0) (.int .i64 0) (.int .i64 0) (.int .i64 0) (.int .i64 0))
   obtain ⟨e0,e1,e2,e3,e4,e5⟩:=C5.six
   exact bodyPost_ret (v := .tuple #[zeroL.agg,.int .i64 100]) (by simp [results,Tryz.results129,go_sem,zeroL,Ltr.agg,e0,e1,e2,e3,e4,e5]) rfl ⟨ret_li Hv.out He.out,h5⟩
  ·have Hv:Hid (v=moreL key r0 r1 r2 x):=by show _=_;rw [hv];unfold againV;rw [hs,hg];rfl
   have He:Hid (er=0):=by show _=_;rw [her];unfold againE;rw [hs,hg];rfl
   have hx:x.err=0:=by unfold Ltr.err;rw [hg];rfl
   rw [hx] at q2
   have hin:=good_inP hg
   clear hv her hs hg hx
   go_enter Tryz.func129,Tryz.ntmps129
   unfold Ltr.agg
   go_upto_region 1 with fail
   rw [←hW3]
   clear hW3
   obtain ⟨k0,k1,k2,k3,k4,k5⟩:=B3.six
   go_wp2_with fail
   (with_reducible refine q.mono ?_)
   rintro e w' ⟨rfl,rfl⟩
   clear q
   go_wp2_with fail
   (with_reducible refine q2.mono ?_)
   rintro e w4 ⟨rfl,b4⟩
   clear q2
   have h4:=bCall h3 b4
   have D2:=B2.below b4 B2.lt
   have D3:=B3.below b4 B3.lt
   have D4:=B4.below b4 B4.lt
   clear k0 k1 k2 k3 k4 k5 B2 B3 B4 h3 b4
   have c9:=nine D3 D2 (bRefl _)
   have q3:=more_drew key r0 r1 r2 x hin w4
   change Hid (v=moreU key r0 r1 r2 (moreU key r0 r1 r2 (moreU key r0 r1 r2 x 0) 1) 2) at Hv
   unfold moreL at q3
   generalize moreU key r0 r1 r2 (moreU key r0 r1 r2 (moreU key r0 r1 r2 x 0) 1) 2=y at *
   unfold Ltr.agg at q3
   have Q3:=Lib.hid q3
   clear q3
   have C9:Hid (∀ w',Below w4.heap.size w4 w'→_):=fun w' B=>nine D3 D2 B
   go_wp2_with fail
   refine wp_region_maskB (f:=6) (n:=3) C9 [2,1,2,0,0,0,0,0] ?_
   simp only [pickH,pickT]
   refine wpHeads_r ?_
   refine wpHeads_t ?_
   refine wpHeads_r ?_
   refine wpHeads_nil ?_
   iterate 3 (refine wpTailS_cons (fun K hK=>?_);go_simp;(first | (go_at_call 45;(with_reducible refine Q3.out.mono ?_);rintro e w6 ⟨rfl,b6⟩;have B1:Below w4.heap.size w4 w6:=bCall (by repeat (first | exact bRefl _ | refine bAl ?_ _ | refine bDr ?_)) b6) | (go_at_call 46;(with_reducible refine (more_any key r0 r1 r2 _).mono ?_);rintro e w' ⟨rfl,rfl⟩) | skip);refine mask_go hK C9 ?_;clear hK K)
   refine wpTailS_zero ?_
   have h5:=bCall h4 B1
   have F4:=D4.below B1 D4.lt
   obtain ⟨z0,z1,z2,z3,z4,z5⟩:=F4.six_free
   obtain ⟨m0,m1,m2,m3,m4,m5⟩:=F4.six
   have C5:=F4.set6 (.int .i64 y.a0) (.int .i64 y.b0) (.int .i64 y.a1) (.int .i64 y.b1) (.int .i64 y.a2) (.int .i64 y.b2)
   have h6:=bSet6 (b:=W.heap.size+1+1) h5 (by omega) (.int .i64 y.a0) (.int .i64 y.b0) (.int .i64 y.a1) (.int .i64 y.b1) (.int .i64 y.a2) (.int .i64 y.b2)
   clear c9
   go_wp2_with fail
   refine NoPanic.normal ?_
   go_wp2_with fail
   change bodyPost _ _ _ _ _ (set6 w6 (W.heap.size+1+1) (.int .i64 y.a0) (.int .i64 y.b0) (.int .i64 y.a1) (.int .i64 y.b1) (.int .i64 y.a2) (.int .i64 y.b2))
   obtain ⟨e0,e1,e2,e3,e4,e5⟩:=C5.six
   exact bodyPost_ret (v := .tuple #[y.agg,.int .i64 0]) (by simp [results,Tryz.results129,go_sem,Ltr.agg,e0,e1,e2,e3,e4,e5]) rfl ⟨ret_li Hv.out He.out,h6⟩
def elemB (n:Int):Bool:=elemE n==0
theorem elemB_yes {n:Int} (h:elemB n=true):elemE n=0:=by simpa [elemB] using h
theorem elemB_no {n:Int} (h:elemB n=false):elemE n=1:=by
 unfold elemB at h
 unfold elemE at h ⊢
 split
 ·rename_i hc;rw [if_pos hc] at h;simp at h
 ·rfl
def sealB (n0 n1 n2:Int):Bool:=elemB n0&&elemB n1&&elemB n2
def seal0 (n0 n1 n2:Int):Ltr:=⟨1,elemV n0,1,elemV n1,1,elemV n2⟩
def sealV (key n0 n1 n2 r0 r1 r2:Int):Ltr:=if validB key=true then (if sealB n0 n1 n2=true then moreL key r0 r1 r2 (seal0 n0 n1 n2) else zeroL) else zeroL
def sealE (key n0 n1 n2:Int):Int:=if validB key=true then (if sealB n0 n1 n2=true then 0 else 100) else 90
theorem elemV_inP {n:Int} : inP (elemV n):=by
 unfold elemV inP
 split
 ·split <;> omega
 ·omega
theorem seal0_inP (n0 n1 n2:Int):(seal0 n0 n1 n2).inP:=⟨⟨(⟨by omega,by omega⟩:inP 1),elemV_inP⟩,⟨(⟨by omega,by omega⟩:inP 1),elemV_inP⟩,(⟨by omega,by omega⟩:inP 1),elemV_inP⟩
theorem el_seal (key n0 n1 n2 r0 r1 r2:Int) (W:World) :
  Calls Tryz.prog 19 #[.int .i64 key,.agg #[.int .i64 n0,.int .i64 n1,.int .i64 n2],.agg #[.int .i64 r0,.int .i64 r1,.int .i64 r2]] W (Ret (.tuple #[(sealV key n0 n1 n2 r0 r1 r2).agg,.int .i64 (sealE key n0 n1 n2)]) W):=by
 obtain ⟨W3,hW3⟩:∃ W3,W3=((W.alloc (.cells #[.int .i64 n0,.int .i64 n1,.int .i64 n2] 28)).alloc (.cells #[.int .i64 r0,.int .i64 r1,.int .i64 r2] 27)).alloc (.cells #[.int .i64 0,.int .i64 0,.int .i64 0,.int .i64 0,.int .i64 0,.int .i64 0] 70):=⟨_,rfl⟩
 have h3:Below W.heap.size W W3:=by rw [hW3];exact bAl (bAl (bAl (bRefl W) _) _) _
 obtain ⟨v,hv⟩:∃ v,v=sealV key n0 n1 n2 r0 r1 r2:=⟨_,rfl⟩
 obtain ⟨er,her⟩:∃ v,v=sealE key n0 n1 n2:=⟨_,rfl⟩
 rw [←hv,←her]
 have B3:Blk W3 W.heap.size 28 #[.int .i64 n0,.int .i64 n1,.int .i64 n2]:=by rw [hW3];exact ((Blk.new _ _ _ _ rfl).alloc _).alloc _
 have B2:Blk W3 (W.heap.size+1) 27 #[.int .i64 r0,.int .i64 r1,.int .i64 r2]:=by rw [hW3];exact (Blk.new _ _ _ _ (by simp)).alloc _
 have B4:Blk W3 (W.heap.size+1+1) 70 #[.int .i64 0,.int .i64 0,.int .i64 0,.int .i64 0,.int .i64 0,.int .i64 0]:=by rw [hW3];exact Blk.new _ _ _ _ (by simp)
 have q:=group_valid key W3
 cases hs:validB key
 ·have Hv:Hid (v=zeroL):=by show _=_;rw [hv];exact if_neg (by simp [hs])
  have He:Hid (er=90):=by show _=_;rw [her];exact if_neg (by simp [hs])
  rw [hs] at q
  have C5:=B4.set6 (.int .i64 0) (.int .i64 0) (.int .i64 0) (.int .i64 0) (.int .i64 0) (.int .i64 0)
  have h5:=bSet6 (b:=W.heap.size+1+1) h3 (by omega) (.int .i64 0) (.int .i64 0) (.int .i64 0) (.int .i64 0) (.int .i64 0) (.int .i64 0)
  clear hv her hs B2 B3
  go_enter Tryz.func19,Tryz.ntmps19
  unfold Ltr.agg
  go_upto_region 1 with fail
  rw [←hW3]
  clear hW3
  obtain ⟨m0,m1,m2,m3,m4,m5⟩:=B4.six
  obtain ⟨z0,z1,z2,z3,z4,z5⟩:=B4.six_free
  go_wp2_with fail
  (with_reducible refine q.mono ?_)
  rintro e w' ⟨rfl,rfl⟩
  clear q
  go_wp2_with fail
  change bodyPost _ _ _ _ _ (set6 W3 (W.heap.size+1+1) (.int .i64 0) (.int .i64 0) (.int .i64 0) (.int .i64 0) (.int .i64 0) (.int .i64 0))
  obtain ⟨e0,e1,e2,e3,e4,e5⟩:=C5.six
  exact bodyPost_ret (v := .tuple #[zeroL.agg,.int .i64 90]) (by simp [results,Tryz.results19,go_sem,zeroL,Ltr.agg,e0,e1,e2,e3,e4,e5]) rfl ⟨ret_li Hv.out He.out,h5⟩
 ·rw [hs] at q
  have Hv:Hid (v=if sealB n0 n1 n2=true then moreL key r0 r1 r2 (seal0 n0 n1 n2) else zeroL):=by show _=_;rw [hv];exact if_pos hs
  have He:Hid (er=if sealB n0 n1 n2=true then 0 else 100):=by show _=_;rw [her];exact if_pos hs
  clear hv her hs
  have i0:∀ w,(Instr.index 28 (.agg #[.int .i64 n0,.int .i64 n1,.int .i64 n2]) (.int .i64 0)).run Tryz.prog w = .ok (.int .i64 n0) w:=fun _=>by kernel_rfl
  have i1:∀ w,(Instr.index 28 (.agg #[.int .i64 n0,.int .i64 n1,.int .i64 n2]) (.int .i64 1)).run Tryz.prog w = .ok (.int .i64 n1) w:=fun _=>by kernel_rfl
  have i2:∀ w,(Instr.index 28 (.agg #[.int .i64 n0,.int .i64 n1,.int .i64 n2]) (.int .i64 2)).run Tryz.prog w = .ok (.int .i64 n2) w:=fun _=>by kernel_rfl
  go_enter Tryz.func19,Tryz.ntmps19
  unfold Ltr.agg
  go_upto_region 1 with fail
  rw [←hW3]
  clear hW3
  obtain ⟨k0,k1,k2⟩:=three B3
  go_wp2_with fail
  (with_reducible refine q.mono ?_)
  rintro e w' ⟨rfl,rfl⟩
  clear q
  go_wp2_with fail
  clear k0 k1 k2
  go_loopw [17] (fun i wr=>∃ (k:Int),i = .int .i64 k∧Below W.heap.size W wr∧Blk wr (W.heap.size+1) 27 #[.int .i64 r0,.int .i64 r1,.int .i64 r2] ∧
   (k = 0 ∧ Blk wr (W.heap.size + 1 + 1) 70 #[.int .i64 0, .int .i64 0, .int .i64 0, .int .i64 0, .int .i64 0, .int .i64 0] ∨
    k=1∧elemB n0=true∧Blk wr (W.heap.size+1+1) 70 #[.int .i64 1,.int .i64 (elemV n0),.int .i64 0,.int .i64 0,.int .i64 0,.int .i64 0] ∨
    k=2∧(elemB n0=true∧elemB n1=true)∧Blk wr (W.heap.size+1+1) 70 #[.int .i64 1,.int .i64 (elemV n0),.int .i64 1,.int .i64 (elemV n1),.int .i64 0,.int .i64 0] ∨
    k=3∧(elemB n0=true∧elemB n1=true∧elemB n2=true)∧Blk wr (W.heap.size+1+1) 70 #[.int .i64 1,.int .i64 (elemV n0),.int .i64 1,.int .i64 (elemV n1),.int .i64 1,.int .i64 (elemV n2)])) (fun i _=>3 - (intOf i).toNat)
  case atStart=>exact ⟨0,rfl,h3,B2,.inl ⟨rfl,B4⟩⟩
  case round =>
   clear h3 B2 B4 B3
   obtain ⟨k,rfl,hb,B2,(⟨rfl,B4⟩ | ⟨rfl,ho,B4⟩ | ⟨rfl,ho,B4⟩ | ⟨rfl,ho,B4⟩)⟩:=hrel
   ·have q:=group_element n0 wr
    obtain ⟨z0,z1,z2,z3,z4,z5⟩:=B4.six_free
    obtain ⟨m0,m1,m2,m3,m4,m5⟩:=B4.six
    cases hc:elemB n0
    ·have hbad:Hid (sealB n0 n1 n2=false):=by show _=_;unfold sealB;rw [hc];rfl
     rw [elemB_no hc] at q
     clear hc
     have C5:=B4.set6 (.int .i64 0) (.int .i64 0) (.int .i64 0) (.int .i64 0) (.int .i64 0) (.int .i64 0)
     have h5:=bSet6 (b:=W.heap.size+1+1) hb (by omega) (.int .i64 0) (.int .i64 0) (.int .i64 0) (.int .i64 0) (.int .i64 0) (.int .i64 0)
     go_wp2_with fail
     (with_reducible refine q.mono ?_)
     rintro e w' ⟨rfl,rfl⟩
     clear q
     go_wp2_with fail
     change bodyPost _ _ _ _ _ (set6 wr (W.heap.size+1+1) (.int .i64 0) (.int .i64 0) (.int .i64 0) (.int .i64 0) (.int .i64 0) (.int .i64 0))
     obtain ⟨e0,e1,e2,e3,e4,e5⟩:=C5.six
     exact bodyPost_ret (v := .tuple #[zeroL.agg,.int .i64 100]) (by simp [results,Tryz.results19,go_sem,zeroL,Ltr.agg,e0,e1,e2,e3,e4,e5]) rfl ⟨ret_li (by rw [Hv.out,hbad.out];rfl) (by rw [He.out,hbad.out];rfl),h5⟩
    ·rw [elemB_yes hc] at q
     have B5:=(B4.set_ 0 (.int .i64 1)).set_ 1 (.int .i64 (elemV n0))
     have hc':=Lib.hid hc
     clear hc
     go_wp2_with fail
     (with_reducible refine q.mono ?_)
     rintro e w' ⟨rfl,rfl⟩
     clear q
     go_wp2_with fail
     have hc:=hc'.out
     refine ⟨⟨1,rfl,bSet (bSet hb (by show W.heap.size≤W.heap.size+1+1;omega) _) (by show W.heap.size≤W.heap.size+1+1;omega) _,(B2.far (by show W.heap.size+1≠W.heap.size+1+1;omega) _).far (by show W.heap.size+1≠W.heap.size+1+1;omega) _,.inr (.inl ⟨rfl,trivial,?_⟩)⟩,by simp [intOf]⟩
     simpa using B5
   ·have q:=group_element n1 wr
    obtain ⟨z0,z1,z2,z3,z4,z5⟩:=B4.six_free
    obtain ⟨m0,m1,m2,m3,m4,m5⟩:=B4.six
    have Ho:=Lib.hid ho
    clear ho
    cases hc:elemB n1
    ·have hbad:Hid (sealB n0 n1 n2=false):=by show _=_;unfold sealB;rw [hc];simp
     rw [elemB_no hc] at q
     clear hc
     have C5:=B4.set6 (.int .i64 0) (.int .i64 0) (.int .i64 0) (.int .i64 0) (.int .i64 0) (.int .i64 0)
     have h5:=bSet6 (b:=W.heap.size+1+1) hb (by omega) (.int .i64 0) (.int .i64 0) (.int .i64 0) (.int .i64 0) (.int .i64 0) (.int .i64 0)
     go_wp2_with fail
     (with_reducible refine q.mono ?_)
     rintro e w' ⟨rfl,rfl⟩
     clear q
     go_wp2_with fail
     change bodyPost _ _ _ _ _ (set6 wr (W.heap.size+1+1) (.int .i64 0) (.int .i64 0) (.int .i64 0) (.int .i64 0) (.int .i64 0) (.int .i64 0))
     obtain ⟨e0,e1,e2,e3,e4,e5⟩:=C5.six
     exact bodyPost_ret (v := .tuple #[zeroL.agg,.int .i64 100]) (by simp [results,Tryz.results19,go_sem,zeroL,Ltr.agg,e0,e1,e2,e3,e4,e5]) rfl ⟨ret_li (by rw [Hv.out,hbad.out];rfl) (by rw [He.out,hbad.out];rfl),h5⟩
    ·rw [elemB_yes hc] at q
     have B5:=(B4.set_ 2 (.int .i64 1)).set_ 3 (.int .i64 (elemV n1))
     have hc':=Lib.hid hc
     clear hc
     go_wp2_with fail
     (with_reducible refine q.mono ?_)
     rintro e w' ⟨rfl,rfl⟩
     clear q
     go_wp2_with fail
     have hc:=hc'.out
     refine ⟨⟨2,rfl,bSet (bSet hb (by show W.heap.size≤W.heap.size+1+1;omega) _) (by show W.heap.size≤W.heap.size+1+1;omega) _,(B2.far (by show W.heap.size+1≠W.heap.size+1+1;omega) _).far (by show W.heap.size+1≠W.heap.size+1+1;omega) _,.inr (.inr (.inl ⟨rfl,⟨Ho.out,trivial⟩,?_⟩))⟩,by simp [intOf]⟩
     simpa using B5
   ·have q:=group_element n2 wr
    obtain ⟨z0,z1,z2,z3,z4,z5⟩:=B4.six_free
    obtain ⟨m0,m1,m2,m3,m4,m5⟩:=B4.six
    have Ho:=Lib.hid ho
    clear ho
    cases hc:elemB n2
    ·have hbad:Hid (sealB n0 n1 n2=false):=by show _=_;unfold sealB;rw [hc];simp
     rw [elemB_no hc] at q
     clear hc
     have C5:=B4.set6 (.int .i64 0) (.int .i64 0) (.int .i64 0) (.int .i64 0) (.int .i64 0) (.int .i64 0)
     have h5:=bSet6 (b:=W.heap.size+1+1) hb (by omega) (.int .i64 0) (.int .i64 0) (.int .i64 0) (.int .i64 0) (.int .i64 0) (.int .i64 0)
     go_wp2_with fail
     (with_reducible refine q.mono ?_)
     rintro e w' ⟨rfl,rfl⟩
     clear q
     go_wp2_with fail
     change bodyPost _ _ _ _ _ (set6 wr (W.heap.size+1+1) (.int .i64 0) (.int .i64 0) (.int .i64 0) (.int .i64 0) (.int .i64 0) (.int .i64 0))
     obtain ⟨e0,e1,e2,e3,e4,e5⟩:=C5.six
     exact bodyPost_ret (v := .tuple #[zeroL.agg,.int .i64 100]) (by simp [results,Tryz.results19,go_sem,zeroL,Ltr.agg,e0,e1,e2,e3,e4,e5]) rfl ⟨ret_li (by rw [Hv.out,hbad.out];rfl) (by rw [He.out,hbad.out];rfl),h5⟩
    ·rw [elemB_yes hc] at q
     have B5:=(B4.set_ 4 (.int .i64 1)).set_ 5 (.int .i64 (elemV n2))
     have hc':=Lib.hid hc
     clear hc
     go_wp2_with fail
     (with_reducible refine q.mono ?_)
     rintro e w' ⟨rfl,rfl⟩
     clear q
     go_wp2_with fail
     have hc:=hc'.out
     refine ⟨⟨3,rfl,bSet (bSet hb (by show W.heap.size≤W.heap.size+1+1;omega) _) (by show W.heap.size≤W.heap.size+1+1;omega) _,(B2.far (by show W.heap.size+1≠W.heap.size+1+1;omega) _).far (by show W.heap.size+1≠W.heap.size+1+1;omega) _,.inr (.inr (.inr ⟨rfl,⟨Ho.out.1,Ho.out.2,trivial⟩,?_⟩))⟩,by simp [intOf]⟩
     simpa using B5
   ·have hok:Hid (sealB n0 n1 n2=true):=by show _=_;unfold sealB;rw [ho.1,ho.2.1,ho.2.2];rfl
    clear ho i0 i1 i2
    have Hv2:Hid (v=moreU key r0 r1 r2 (moreU key r0 r1 r2 (moreU key r0 r1 r2 (seal0 n0 n1 n2) 0) 1) 2):=by show _=_;rw [Hv.out,hok.out];rfl
    have He2:Hid (er=0):=by show _=_;rw [He.out,hok.out];rfl
    have c9:=nine B4 B2 (bRefl _)
    have q3:=more_drew key r0 r1 r2 (seal0 n0 n1 n2) (seal0_inP n0 n1 n2) wr
    unfold moreL at q3
    generalize moreU key r0 r1 r2 (moreU key r0 r1 r2 (moreU key r0 r1 r2 (seal0 n0 n1 n2) 0) 1) 2=y at *
    unfold Ltr.agg seal0 at q3
    have Q3:=Lib.hid q3
    clear q3
    have C9:Hid (∀ w',Below wr.heap.size wr w'→_):=fun w' B=>nine B4 B2 B
    go_upto_region 11 with fail
    refine wp_region_maskB (f:=6) (n:=3) C9 [2,1,2,0,0,0,0,0] ?_
    simp only [pickH,pickT]
    refine wpHeads_r ?_
    refine wpHeads_t ?_
    refine wpHeads_r ?_
    refine wpHeads_nil ?_
    iterate 3 (refine wpTailS_cons (fun K hK=>?_);go_simp;(first | (go_at_call 45;(with_reducible refine Q3.out.mono ?_);rintro e w6 ⟨rfl,b6⟩;have B1:Below wr.heap.size wr w6:=bCall (by repeat (first | exact bRefl _ | refine bAl ?_ _ | refine bDr ?_)) b6) | (go_at_call 46;(with_reducible refine (more_any key r0 r1 r2 _).mono ?_);rintro e w' ⟨rfl,rfl⟩) | skip);refine mask_go hK C9 ?_;clear hK K)
    refine wpTailS_zero ?_
    have h5:=bCall hb B1
    have F4:=B4.below B1 B4.lt
    obtain ⟨z0,z1,z2,z3,z4,z5⟩:=F4.six_free
    obtain ⟨m0,m1,m2,m3,m4,m5⟩:=F4.six
    have C5:=F4.set6 (.int .i64 y.a0) (.int .i64 y.b0) (.int .i64 y.a1) (.int .i64 y.b1) (.int .i64 y.a2) (.int .i64 y.b2)
    have h6:=bSet6 (b:=W.heap.size+1+1) h5 (by omega) (.int .i64 y.a0) (.int .i64 y.b0) (.int .i64 y.a1) (.int .i64 y.b1) (.int .i64 y.a2) (.int .i64 y.b2)
    clear c9
    go_wp2_with fail
    refine NoPanic.normal ?_
    go_wp2_with fail
    change bodyPost _ _ _ _ _ (set6 w6 (W.heap.size+1+1) (.int .i64 y.a0) (.int .i64 y.b0) (.int .i64 y.a1) (.int .i64 y.b1) (.int .i64 y.a2) (.int .i64 y.b2))
    obtain ⟨e0,e1,e2,e3,e4,e5⟩:=C5.six
    exact bodyPost_ret (v := .tuple #[y.agg,.int .i64 0]) (by simp [results,Tryz.results19,go_sem,Ltr.agg,e0,e1,e2,e3,e4,e5]) rfl ⟨ret_li Hv2.out He2.out,h6⟩
attribute [local go_sem] Oper.semAt_some
structure Wd where
 x:Int
 y:Int
 z:Int
def Wd.cells (w:Wd):Array Value:=#[.int .i64 w.x,.int .i64 w.y,.int .i64 w.z]
def Wd.agg (w:Wd):Value := .agg #[.int .i64 w.x,.int .i64 w.y,.int .i64 w.z]
def readU (x:Ltr) (w:Wd) (k:Fin 3):Wd:=match k with
 | 0=>{ w with x:=numV x.b0 }
 | 1=>{ w with y:=numV x.b1 }
 | 2=>{ w with z:=numV x.b2 }
def readV (x:Ltr):Wd:=if x.good=true then ⟨numV x.b0,numV x.b1,numV x.b2⟩ else ⟨0,0,0⟩
end Go.Proofs.YtoeobcmmafncmaaGreatDoor
namespace Go.Proofs.YtoeobcmmafncmaaGreatDoor
open Go.RowKit
structure CK (w:World) (k a d p:Nat) (key x y E S:Int):Prop where
 hk:Blk w k 3 #[.int .i64 key]
 ha:Blk w a 3 #[.int .i64 x]
 hd:Blk w d 3 #[.int .i64 y]
 hp:Blk w p 110 #[.int .i64 E,.int .i64 S]
theorem CK.below {w w':World} {k a d p:Nat} {key x y E S:Int} (h:CK w k a d p key x y E S) (b:Below w.heap.size w w'):CK w' k a d p key x y E S :=
 ⟨h.hk.below b h.hk.lt,h.ha.below b h.ha.lt,h.hd.below b h.hd.lt,h.hp.below b h.hp.lt⟩
def CK.cells (w:World) (k a d p:Nat) (key x y E S:Int):Prop :=
 w.cell? ⟨k,0,none⟩=some (.int .i64 key)∧w.cell? ⟨a,0,none⟩=some (.int .i64 x)∧w.cell? ⟨d,0,none⟩=some (.int .i64 y)∧w.cell? ⟨p,0,none⟩=some (.int .i64 E)∧w.cell? ⟨p,1,none⟩=some (.int .i64 S)
theorem CK.out {w:World} {k a d p:Nat} {key x y E S:Int} (h:CK w k a d p key x y E S):w.cell? ⟨k,0,none⟩=some (.int .i64 key)∧w.cell? ⟨a,0,none⟩=some (.int .i64 x)∧w.cell? ⟨d,0,none⟩=some (.int .i64 y)∧w.cell? ⟨p,0,none⟩=some (.int .i64 E)∧w.cell? ⟨p,1,none⟩=some (.int .i64 S) :=
 ⟨h.hk.cell 0,h.ha.cell 0,h.hd.cell 0,h.hp.cell 0,h.hp.cell 1⟩
theorem check1 (W:World) (k a d p:Nat) (key x y E S:Int) (C:CK W k a d p key x y E S) :
  Calls Tryz.prog 92 #[.pointer (some ⟨k,0,none⟩),.pointer (some ⟨a,0,none⟩),.pointer (some ⟨d,0,none⟩)] W (Same (.bool (validB key&&validB x&&validB y)) W):=by
 obtain ⟨c1,c2,c3,c4,c5⟩:=C.out
 have q1:=group_valid key W
 have q2:=group_valid x W
 have q3:=group_valid y W
 cases h1:validB key
 ·rw [h1] at q1
  clear q2 q3
  go_enter Tryz.func92,Tryz.ntmps92
  go_wp2_with fail
  with_reducible refine q1.mono ?_
  rintro e w1 ⟨rfl,rfl⟩
  go_wp2_with fail
  go_ret
  exact ⟨rfl,rfl⟩
 ·cases h2:validB x
  ·rw [h1] at q1
   rw [h2] at q2
   clear q3
   go_enter Tryz.func92,Tryz.ntmps92
   go_wp2_with fail
   with_reducible refine q1.mono ?_
   rintro e w1 ⟨rfl,rfl⟩
   go_wp2_with fail
   with_reducible refine q2.mono ?_
   rintro e w1 ⟨rfl,rfl⟩
   go_wp2_with fail
   go_ret
   exact ⟨rfl,rfl⟩
  ·rw [h1] at q1
   rw [h2] at q2
   cases h3:validB y <;>
   ·rw [h3] at q3
    go_enter Tryz.func92,Tryz.ntmps92
    go_wp2_with fail
    with_reducible refine q1.mono ?_
    rintro e w1 ⟨rfl,rfl⟩
    go_wp2_with fail
    with_reducible refine q2.mono ?_
    rintro e w1 ⟨rfl,rfl⟩
    go_wp2_with fail
    with_reducible refine q3.mono ?_
    rintro e w1 ⟨rfl,rfl⟩
    go_wp2_with fail
    go_ret
    exact ⟨rfl,rfl⟩
theorem check2 (W:World) (k a d p:Nat) (key x y E S:Int) (C:CK W k a d p key x y E S) :
  Calls Tryz.prog 93 #[.pointer (some ⟨p,0,none⟩)] W (Same (.bool (ordB E&&ordB S)) W):=by
 obtain ⟨c1,c2,c3,c4,c5⟩:=C.out
 have q1:=equal_inOrder E W
 have q2:=equal_inOrder S W
 cases h1:ordB E
 ·rw [h1] at q1
  clear q2
  go_enter Tryz.func93,Tryz.ntmps93
  go_wp2_with fail
  with_reducible refine q1.mono ?_
  rintro e w1 ⟨rfl,rfl⟩
  go_wp2_with fail
  go_ret
  exact ⟨rfl,rfl⟩
 ·rw [h1] at q1
  cases h2:ordB S <;>
  ·rw [h2] at q2
   go_enter Tryz.func93,Tryz.ntmps93
   go_wp2_with fail
   with_reducible refine q1.mono ?_
   rintro e w1 ⟨rfl,rfl⟩
   go_wp2_with fail
   with_reducible refine q2.mono ?_
   rintro e w1 ⟨rfl,rfl⟩
   go_wp2_with fail
   go_ret
   exact ⟨rfl,rfl⟩
abbrev rV (key E S:Int):Int:=mulL [powV 4 S,powV key (-E)]
abbrev sV (x y E S:Int):Int:=mulL [powV x S,powV y (-E)]
theorem check3 (W:World) (k a d p:Nat) (key x y E S:Int) (C:CK W k a d p key x y E S) (hE:0≤E∧E<1073741789) (hS:0≤S∧S<1073741789) (i1:inI key) (i2:inI x) (i3:inI y) (hG:ShaG W) :
  Calls Tryz.prog 95 #[.pointer (some ⟨p,0,none⟩),.pointer (some ⟨k,0,none⟩),.pointer (some ⟨a,0,none⟩),.pointer (some ⟨d,0,none⟩)] W (Ret (.bool (decide (E=(chalV key x y (rV key E S) (sV x y E S):Nat)))) W):=by
 obtain ⟨c1,c2,c3,c4,c5⟩:=C.out
 obtain ⟨hE1,hE2⟩:=hE
 obtain ⟨hS1,hS2⟩:=hS
 go_enter Tryz.func95,Tryz.ntmps95
 go_wp2_with fail
 have hneg:Hid (IntKind.i64.wrap (-E) = -E):=by show _=_;rw [IntKind.wrap_i64];omega
 go_region_held3 (fun w'=>w'.cell? ⟨k,0,none⟩=some (.int .i64 key)∧w'.cell? ⟨a,0,none⟩=some (.int .i64 x)∧w'.cell? ⟨d,0,none⟩=some (.int .i64 y)∧w'.cell? ⟨p,0,none⟩=some (.int .i64 E)∧w'.cell? ⟨p,1,none⟩=some (.int .i64 S))
  (first | exact (C.below (by repeat (first | exact B4 | exact B3 | exact B2 | exact B1 | exact bRefl _ | refine bAl ?_ _ | refine bDr ?_))).out)
  (first
  | (go_simp;go_at_call 51;(with_reducible refine (equal_mul2 (powV x S) (powV y (-E)) _).mono ?_);rintro e w' ⟨rfl,rfl⟩)
  | (go_simp;go_at_call 51;(with_reducible refine (equal_mul2 (powV 4 S) (powV key (-E)) _).mono ?_);rintro e w' ⟨rfl,rfl⟩)
  | (go_simp;go_at_call 52;(try rw [hneg.out]);(with_reducible refine (equal_pow y (-E) _).mono ?_);rintro e w4 ⟨rfl,b4⟩;have B4:Below W.heap.size W w4:=bCall (by repeat (first | exact B3 | refine bAl ?_ _ | refine bDr ?_)) b4)
  | (go_simp;go_at_call 52;(with_reducible refine (equal_pow x S _).mono ?_);rintro e w3 ⟨rfl,b3⟩;have B3:Below W.heap.size W w3:=bCall (by repeat (first | exact B2 | refine bAl ?_ _ | refine bDr ?_)) b3)
  | (go_simp;go_at_call 52;(try rw [hneg.out]);(with_reducible refine (equal_pow key (-E) _).mono ?_);rintro e w2 ⟨rfl,b2⟩;have B2:Below W.heap.size W w2:=bCall (by repeat (first | exact B1 | refine bAl ?_ _ | refine bDr ?_)) b2)
  | (go_simp;go_at_call 52;(with_reducible refine (equal_pow 4 S _).mono ?_);rintro e w1 ⟨rfl,b1⟩;have B1:Below W.heap.size W w1:=bCall (by repeat (first | exact bRefl _ | refine bAl ?_ _ | refine bDr ?_)) b1))
 have hr:=mulL_in [powV 4 S,powV key (-E)]
 have hs:=mulL_in [powV x S,powV y (-E)]
 have C4:=C.below (w':=w4.alloc (.cells #[.int .i64 (powV x S),.int .i64 (powV y (-E))] 3)) (bAl B4 _)
 have hb4:=bAl B4 (.cells #[.int .i64 (powV x S),.int .i64 (powV y (-E))] 3)
 generalize w4.alloc (.cells #[.int .i64 (powV x S),.int .i64 (powV y (-E))] 3)=w5 at *
 obtain ⟨c1,c2,c3,c4,c5⟩:=C4.out
 go_wp2_with fail
 go_region_held3 (fun w'=>w'.cell? ⟨k,0,none⟩=some (.int .i64 key)∧w'.cell? ⟨a,0,none⟩=some (.int .i64 x)∧w'.cell? ⟨d,0,none⟩=some (.int .i64 y)∧w'.cell? ⟨p,0,none⟩=some (.int .i64 E)∧w'.cell? ⟨p,1,none⟩=some (.int .i64 S))
  (first | exact (C4.below (by repeat (first | exact B6 | exact bRefl _ | refine bAl ?_ _ | refine bDr ?_))).out)
  (first
  | (go_simp;go_at_call 91;(with_reducible refine (challenge_any key x y (rV key E S) (sV x y E S) _ i1 i2 i3 hr hs (hG.below (by repeat (first | exact hb4 | refine bAl ?_ _ | refine bDr ?_)))).mono ?_);rintro e w6 ⟨rfl,b6⟩;have B6:Below w5.heap.size w5 w6:=bCall (by repeat (first | exact bRefl _ | refine bAl ?_ _ | refine bDr ?_)) b6))
 go_wp2_with fail
 go_ret
 exact ⟨rfl,bCall hb4 B6⟩
end Go.Proofs.YtoeobcmmafncmaaGreatDoor

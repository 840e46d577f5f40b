/- The reference's elgamal: Seal. -/
import Derived.Test.YtoeobcmmafncmaaGreatDoorSay
import Derived.Test.YtoeobcmmafncmaaGreatDoorSax
import Derived.Test.YtoeobcmmafncmaaGreatDoorSal
set_option maxRecDepth 1000000
set_option maxHeartbeats 16000000
namespace Go.Proofs.YtoeobcmmafncmaaGreatDoor
open Go.RowKit
def SealAt (key n0 n1 n2 r0 r1 r2:Int) (k:Nat) (y:Ltr):Prop:=∀ j:Fin 3,j.val<k→elemB (nAt n0 n1 n2 j)=true∧y.aAt j=powV 4 (nAt r0 r1 r2 j)∧y.bAt j=elemV (nAt n0 n1 n2 j)*powV key (nAt r0 r1 r2 j) % 2147483579
theorem SealAt.start {key n0 n1 n2 r0 r1 r2:Int} (y:Ltr):SealAt key n0 n1 n2 r0 r1 r2 0 y:=fun j h=>by omega
theorem SealAt.next {key n0 n1 n2 r0 r1 r2:Int} {y:Ltr} {k:Nat} (i:Fin 3) (hi:i.val=k) (h:SealAt key n0 n1 n2 r0 r1 r2 k y) (he:elemB (nAt n0 n1 n2 i)=true) {a b:Int} (ha:a=powV 4 (nAt r0 r1 r2 i)) (hb:b=elemV (nAt n0 n1 n2 i)*powV key (nAt r0 r1 r2 i) % 2147483579) :
  SealAt key n0 n1 n2 r0 r1 r2 (k+1) (setL y i a b):=fun j hj=>by
 obtain ⟨e1,e2⟩:=setL_at y i j a b
 rw [e1,e2]
 by_cases hji:j=i
 ·subst hji
  rw [if_pos rfl,if_pos rfl]
  exact ⟨he,ha,hb⟩
 ·rw [if_neg hji,if_neg hji]
  exact h j (by have:j.val≠i.val:=fun e=>hji (Fin.ext e);omega)
theorem SealAt.done {key n0 n1 n2 r0 r1 r2:Int} {y:Ltr} (hk:validB key=true) (h:SealAt key n0 n1 n2 r0 r1 r2 3 y):sealV key n0 n1 n2 r0 r1 r2=y∧sealE key n0 n1 n2=0:=by
 obtain ⟨e0,a0,b0⟩:=h 0 (by decide)
 obtain ⟨e1,a1,b1⟩:=h 1 (by decide)
 obtain ⟨e2,a2,b2⟩:=h 2 (by decide)
 have hs:sealB n0 n1 n2=true:=by
  unfold sealB
  rw [show elemB n0=true from e0,show elemB n1=true from e1,show elemB n2=true from e2];rfl
 unfold sealV sealE
 rw [if_pos hk,if_pos hk,if_pos hs,if_pos hs]
 refine ⟨Ltr.ext3 fun j=>?_,rfl⟩
 have hm:∀ n:Int,1*powV 4 n % 2147483579=powV 4 n:=fun n=>by rw [Int.one_mul,modP (valid_pow valid_four n)]
 match j with
 | 0=>rw [a0,b0];unfold moreL moreU seal0;simp only [timesL_two,hm,Ltr.aAt,Ltr.bAt,nAt,and_self]
 | 1=>rw [a1,b1];unfold moreL moreU seal0;simp only [timesL_two,hm,Ltr.aAt,Ltr.bAt,nAt,and_self]
 | 2=>rw [a2,b2];unfold moreL moreU seal0;simp only [timesL_two,hm,Ltr.aAt,Ltr.bAt,nAt,and_self]
theorem SealAt.bad {n0 n1 n2:Int} (i:Fin 3) (h:elemB (nAt n0 n1 n2 i)=false):sealB n0 n1 n2=false:=by
 unfold sealB
 match i,h with
 | 0,h=>rw [show elemB n0=false from h];rfl
 | 1,h=>rw [show elemB n1=false from h];simp
 | 2,h=>rw [show elemB n2=false from h];simp
theorem ref_seal (key n0 n1 n2 r0 r1 r2:Int) (W:World) :
  Calls Tryz.prog 38 #[.int .i64 key,.agg #[.int .i64 n0,.int .i64 n1,.int .i64 n2],.agg #[.int .i64 r0,.int .i64 r1,.int .i64 r2]] W (Ret (.tuple #[(sealV key n0 n1 n2 r0 r1 r2).agg,.int .i64 (sealE key n0 n1 n2)]) W):=by
 obtain ⟨W3,hW3⟩:∃ W3,W3=((W.alloc (.cells #[.int .i64 n0,.int .i64 n1,.int .i64 n2] 28)).alloc (.cells #[.int .i64 r0,.int .i64 r1,.int .i64 r2] 27)).alloc (.cells #[.int .i64 0,.int .i64 0,.int .i64 0,.int .i64 0,.int .i64 0,.int .i64 0] 70):=⟨_,rfl⟩
 have h3:Below W.heap.size W W3:=by rw [hW3];exact bAl (bAl (bAl (bRefl W) _) _) _
 obtain ⟨v,hv⟩:∃ v,v=sealV key n0 n1 n2 r0 r1 r2:=⟨_,rfl⟩
 obtain ⟨er,her⟩:∃ v,v=sealE key n0 n1 n2:=⟨_,rfl⟩
 rw [←hv,←her]
 have B1:Blk W3 W.heap.size 28 #[.int .i64 n0,.int .i64 n1,.int .i64 n2]:=by rw [hW3];exact ((Blk.new _ _ _ _ rfl).alloc _).alloc _
 have B2:Blk W3 (W.heap.size+1) 27 #[.int .i64 r0,.int .i64 r1,.int .i64 r2]:=by rw [hW3];exact (Blk.new _ _ _ _ (by simp)).alloc _
 have B4:Blk W3 (W.heap.size+1+1) 70 #[.int .i64 0,.int .i64 0,.int .i64 0,.int .i64 0,.int .i64 0,.int .i64 0]:=by rw [hW3];exact Blk.new _ _ _ _ (by simp)
 have q:=ref_valid key W3
 cases hs:validB key
 ·have Hv:Hid (v=zeroL):=by show _=_;rw [hv];exact if_neg (by simp [hs])
  have He:Hid (er=90):=by show _=_;rw [her];exact if_neg (by simp [hs])
  rw [hs] at q
  have C5:=B4.set6 (.int .i64 0) (.int .i64 0) (.int .i64 0) (.int .i64 0) (.int .i64 0) (.int .i64 0)
  have h5:=bSet6 (b:=W.heap.size+1+1) h3 (by omega) (.int .i64 0) (.int .i64 0) (.int .i64 0) (.int .i64 0) (.int .i64 0) (.int .i64 0)
  clear hv her hs B1 B2
  go_enter Tryz.func38,Tryz.ntmps38
  unfold Ltr.agg
  go_upto_region 1 with fail
  rw [←hW3]
  clear hW3
  obtain ⟨m0,m1,m2,m3,m4,m5⟩:=B4.six
  obtain ⟨z0,z1,z2,z3,z4,z5⟩:=B4.six_free
  go_wp2_with fail
  (with_reducible refine q.mono ?_)
  rintro e w' ⟨rfl,rfl⟩
  clear q
  go_wp2_with fail
  change bodyPost _ _ _ _ _ (set6 W3 (W.heap.size+1+1) (.int .i64 0) (.int .i64 0) (.int .i64 0) (.int .i64 0) (.int .i64 0) (.int .i64 0))
  obtain ⟨e0,e1,e2,e3,e4,e5⟩:=C5.six
  exact bodyPost_ret (v := .tuple #[zeroL.agg,.int .i64 90]) (by simp [results,Tryz.results38,go_sem,zeroL,Ltr.agg,e0,e1,e2,e3,e4,e5]) rfl ⟨ret_li Hv.out He.out,h5⟩
 ·rw [hs] at q
  have Hk:=Lib.hid hs
  have Hv:=Lib.hid hv
  have He:=Lib.hid her
  clear hv her hs
  go_enter Tryz.func38,Tryz.ntmps38
  unfold Ltr.agg
  go_upto_region 1 with fail
  rw [←hW3]
  clear hW3
  go_wp2_with fail
  (with_reducible refine q.mono ?_)
  rintro e w' ⟨rfl,rfl⟩
  clear q
  go_upto_region 4 with fail
  have BS:=Blk.new W3 70 zeroL.cells _ rfl
  have D1:=B1.alloc (.cells #[.int .i64 0,.int .i64 0,.int .i64 0,.int .i64 0,.int .i64 0,.int .i64 0] 70)
  have D2:=B2.alloc (.cells #[.int .i64 0,.int .i64 0,.int .i64 0,.int .i64 0,.int .i64 0,.int .i64 0] 70)
  have D4:=B4.alloc (.cells #[.int .i64 0,.int .i64 0,.int .i64 0,.int .i64 0,.int .i64 0,.int .i64 0] 70)
  have hb:=bAl h3 (.cells #[.int .i64 0,.int .i64 0,.int .i64 0,.int .i64 0,.int .i64 0,.int .i64 0] 70)
  change Blk (W3.alloc (.cells #[.int .i64 0,.int .i64 0,.int .i64 0,.int .i64 0,.int .i64 0,.int .i64 0] 70)) _ _ _ at BS
  have hsb:W.heap.size+1+1<W3.heap.size:=B4.lt
  clear B1 B2 B4 h3
  generalize W3.alloc (.cells #[.int .i64 0,.int .i64 0,.int .i64 0,.int .i64 0,.int .i64 0,.int .i64 0] 70)=w4 at *
  generalize W3.heap.size=sb at *
  go_wp2_with fail
  go_loopw [9] (fun i wr=>∃ (k:Int) (y:Ltr),i = .int .i64 k∧Below W.heap.size W wr∧Blk wr W.heap.size 28 #[.int .i64 n0,.int .i64 n1,.int .i64 n2]∧Blk wr (W.heap.size+1) 27 #[.int .i64 r0,.int .i64 r1,.int .i64 r2]∧Blk wr (W.heap.size+1+1) 70 #[.int .i64 0,.int .i64 0,.int .i64 0,.int .i64 0,.int .i64 0,.int .i64 0] ∧
   Blk wr sb 70 y.cells∧(k=0∨k=1∨k=2∨k=3)∧Hid (SealAt key n0 n1 n2 r0 r1 r2 k.toNat y)) (fun i _=>3 - (intOf i).toNat)
  case atStart=>exact ⟨0,zeroL,rfl,hb,D1,D2,D4,BS,.inl rfl,Lib.hid (SealAt.start _)⟩
  case round =>
   clear hb D1 D2 D4 BS
   obtain ⟨k,y,rfl,hb,B1,B2,B4,BS,hk4,HA⟩:=hrel
   rcases hk4 with rfl | rfl | rfl | rfl
   ·have q:=ref_element n0 wr
    obtain ⟨k0,k1,k2⟩:=three B1
    cases hc:elemB n0
    ·have hbad:Hid (sealB n0 n1 n2=false):=Lib.hid (SealAt.bad 0 hc)
     rw [elemB_no hc] at q
     clear hc
     obtain ⟨z0,z1,z2,z3,z4,z5⟩:=B4.six_free
     obtain ⟨m0,m1,m2,m3,m4,m5⟩:=B4.six
     have C5:=B4.set6 (.int .i64 0) (.int .i64 0) (.int .i64 0) (.int .i64 0) (.int .i64 0) (.int .i64 0)
     have h5:=bSet6 (b:=W.heap.size+1+1) hb (by omega) (.int .i64 0) (.int .i64 0) (.int .i64 0) (.int .i64 0) (.int .i64 0) (.int .i64 0)
     generalize elemV n0=X at *
     go_wp2_with fail
     (with_reducible refine q.mono ?_)
     rintro e w' ⟨rfl,rfl⟩
     clear q
     go_wp2_with fail
     change bodyPost _ _ _ _ _ (set6 wr (W.heap.size+1+1) (.int .i64 0) (.int .i64 0) (.int .i64 0) (.int .i64 0) (.int .i64 0) (.int .i64 0))
     obtain ⟨e0,e1,e2,e3,e4,e5⟩:=C5.six
     exact bodyPost_ret (v := .tuple #[zeroL.agg,.int .i64 100]) (by simp [results,Tryz.results38,go_sem,zeroL,Ltr.agg,e0,e1,e2,e3,e4,e5]) rfl ⟨ret_li (by rw [Hv.out];unfold sealV;rw [if_pos Hk.out,hbad.out];rfl) (by rw [He.out];unfold sealE;rw [if_pos Hk.out,hbad.out];rfl),h5⟩
    ·rw [elemB_yes hc] at q
     have q1:=fun w=>ref_pw 4 r0 w
     have q2:=fun w=>ref_pw key r0 w
     obtain ⟨X,hX⟩:∃ X,Hid (X=elemV n0):=⟨_,Lib.hid rfl⟩
     obtain ⟨P1,hP1⟩:∃ P1,Hid (P1=powV 4 r0):=⟨_,Lib.hid rfl⟩
     obtain ⟨P2,hP2⟩:∃ P2,Hid (P2=powV key r0):=⟨_,Lib.hid rfl⟩
     have q3:=fun w=>ref_times X P2 w (by rw [hX.out];exact elemV_inP) (by rw [hP2.out];exact powV_inP _ _)
     obtain ⟨T,hT⟩:∃ T,Hid (T=X*P2 % 2147483579):=⟨_,Lib.hid rfl⟩
     rw [←hX.out] at q
     rw [←hP1.out] at q1
     rw [←hP2.out] at q2
     rw [←hT.out] at q3
     have HN:=Lib.hid (SealAt.next 0 (show (0:Fin 3).val=(0:Int).toNat by rfl) HA.out hc (a:=P1) (b:=T) hP1.out (by rw [hT.out,hX.out,hP2.out];rfl))
     clear hc hX hP1 hP2 hT HA
     have KS:Hid (∀ w',Below wr.heap.size wr w'→w'.cell? ⟨W.heap.size+1,0,none⟩=some (.int .i64 r0)):=Lib.hid (fun w' h=>(B2.below h B2.lt).cell 0)
     go_wp2_with fail
     (with_reducible refine q.mono ?_)
     rintro e w' ⟨rfl,rfl⟩
     clear q
     go_upto_region 10 with fail
     refine wp_region_schB (f:=14) KS [(0,1),(1,1),(2,1),(3,2),(5,1),(6,1),(7,1),(8,1),(9,2),(4,0),(10,0),(11,0),(12,1),(13,1),(14,3)] ?_
     simp only [pickS,List.getElem?_cons_zero,List.getElem?_cons_succ]
     iterate 3 refine wpSched_t ?_
     refine wpSched_r ?_
     iterate 4 refine wpSched_t ?_
     refine wpSched_r ?_
     refine wpSched_force (fun K hK=>?_)
     go_simp;(first | (go_at_call 71;(first | (with_reducible refine (q1 _).mono ?_) | (with_reducible refine (q2 _).mono ?_));rintro e w9 ⟨rfl,hw9⟩;subst hw9) | (go_at_call 72;(with_reducible refine (q3 _).mono ?_);rintro e w9 ⟨rfl,hw9⟩;subst hw9) | skip)
     refine shut_go hK KS ?_
     clear hK K
     refine wpSched_force (fun K hK=>?_)
     go_simp;(first | (go_at_call 71;(first | (with_reducible refine (q1 _).mono ?_) | (with_reducible refine (q2 _).mono ?_));rintro e w9 ⟨rfl,hw9⟩;subst hw9) | (go_at_call 72;(with_reducible refine (q3 _).mono ?_);rintro e w9 ⟨rfl,hw9⟩;subst hw9) | skip)
     refine shut_go hK KS ?_
     clear hK K
     refine wpSched_force (fun K hK=>?_)
     go_simp;(first | (go_at_call 71;(first | (with_reducible refine (q1 _).mono ?_) | (with_reducible refine (q2 _).mono ?_));rintro e w9 ⟨rfl,hw9⟩;subst hw9) | (go_at_call 72;(with_reducible refine (q3 _).mono ?_);rintro e w9 ⟨rfl,hw9⟩;subst hw9) | skip)
     refine shut_go hK KS ?_
     clear hK K
     iterate 2 refine wpSched_t ?_
     refine wpSched_last ?_
     first | simp only [List.map_nil] | simp only [List.map_cons,List.map_nil]
     have BS2:Blk wr.drew sb 70 _:=BS.dr
     have E1:Blk wr.drew W.heap.size 28 _:=B1.dr
     have E2:Blk wr.drew (W.heap.size+1) 27 _:=B2.dr
     have E4:Blk wr.drew (W.heap.size+1+1) 70 _:=B4.dr
     have hb2:=bDr hb
     clear BS B1 B2 B4 hb k0 k1 k2 q1 q2 q3 KS
     generalize wr.drew=w5 at *
     obtain ⟨z0,z1,z2,z3,z4,z5⟩:=BS2.six_free
     obtain ⟨m0,m1,m2,m3,m4,m5⟩:=six_of BS2
     have BN:=BS2.setL0 P1 T
     go_wp2_with fail
     refine NoPanic.normal ?_
     go_wp2_with fail
     exact ⟨⟨1,_,rfl,bSet (bSet hb2 (by show W.heap.size≤sb;omega) _) (by show W.heap.size≤sb;omega) _,(E1.far (by show W.heap.size≠sb;omega) _).far (by show W.heap.size≠sb;omega) _,(E2.far (by show W.heap.size+1≠sb;omega) _).far (by show W.heap.size+1≠sb;omega) _,(E4.far (by show W.heap.size+1+1≠sb;omega) _).far (by show W.heap.size+1+1≠sb;omega) _,BN,.inr (.inl rfl),HN⟩,by simp [intOf]⟩
   ·have q:=ref_element n1 wr
    obtain ⟨k0,k1,k2⟩:=three B1
    cases hc:elemB n1
    ·have hbad:Hid (sealB n0 n1 n2=false):=Lib.hid (SealAt.bad 1 hc)
     rw [elemB_no hc] at q
     clear hc
     obtain ⟨z0,z1,z2,z3,z4,z5⟩:=B4.six_free
     obtain ⟨m0,m1,m2,m3,m4,m5⟩:=B4.six
     have C5:=B4.set6 (.int .i64 0) (.int .i64 0) (.int .i64 0) (.int .i64 0) (.int .i64 0) (.int .i64 0)
     have h5:=bSet6 (b:=W.heap.size+1+1) hb (by omega) (.int .i64 0) (.int .i64 0) (.int .i64 0) (.int .i64 0) (.int .i64 0) (.int .i64 0)
     generalize elemV n1=X at *
     go_wp2_with fail
     (with_reducible refine q.mono ?_)
     rintro e w' ⟨rfl,rfl⟩
     clear q
     go_wp2_with fail
     change bodyPost _ _ _ _ _ (set6 wr (W.heap.size+1+1) (.int .i64 0) (.int .i64 0) (.int .i64 0) (.int .i64 0) (.int .i64 0) (.int .i64 0))
     obtain ⟨e0,e1,e2,e3,e4,e5⟩:=C5.six
     exact bodyPost_ret (v := .tuple #[zeroL.agg,.int .i64 100]) (by simp [results,Tryz.results38,go_sem,zeroL,Ltr.agg,e0,e1,e2,e3,e4,e5]) rfl ⟨ret_li (by rw [Hv.out];unfold sealV;rw [if_pos Hk.out,hbad.out];rfl) (by rw [He.out];unfold sealE;rw [if_pos Hk.out,hbad.out];rfl),h5⟩
    ·rw [elemB_yes hc] at q
     have q1:=fun w=>ref_pw 4 r1 w
     have q2:=fun w=>ref_pw key r1 w
     obtain ⟨X,hX⟩:∃ X,Hid (X=elemV n1):=⟨_,Lib.hid rfl⟩
     obtain ⟨P1,hP1⟩:∃ P1,Hid (P1=powV 4 r1):=⟨_,Lib.hid rfl⟩
     obtain ⟨P2,hP2⟩:∃ P2,Hid (P2=powV key r1):=⟨_,Lib.hid rfl⟩
     have q3:=fun w=>ref_times X P2 w (by rw [hX.out];exact elemV_inP) (by rw [hP2.out];exact powV_inP _ _)
     obtain ⟨T,hT⟩:∃ T,Hid (T=X*P2 % 2147483579):=⟨_,Lib.hid rfl⟩
     rw [←hX.out] at q
     rw [←hP1.out] at q1
     rw [←hP2.out] at q2
     rw [←hT.out] at q3
     have HN:=Lib.hid (SealAt.next 1 (show (1:Fin 3).val=(1:Int).toNat by rfl) HA.out hc (a:=P1) (b:=T) hP1.out (by rw [hT.out,hX.out,hP2.out];rfl))
     clear hc hX hP1 hP2 hT HA
     have KS:Hid (∀ w',Below wr.heap.size wr w'→w'.cell? ⟨W.heap.size+1,1,none⟩=some (.int .i64 r1)):=Lib.hid (fun w' h=>(B2.below h B2.lt).cell 1)
     go_wp2_with fail
     (with_reducible refine q.mono ?_)
     rintro e w' ⟨rfl,rfl⟩
     clear q
     go_upto_region 10 with fail
     refine wp_region_schB (f:=14) KS [(0,1),(1,1),(2,1),(3,2),(5,1),(6,1),(7,1),(8,1),(9,2),(4,0),(10,0),(11,0),(12,1),(13,1),(14,3)] ?_
     simp only [pickS,List.getElem?_cons_zero,List.getElem?_cons_succ]
     iterate 3 refine wpSched_t ?_
     refine wpSched_r ?_
     iterate 4 refine wpSched_t ?_
     refine wpSched_r ?_
     refine wpSched_force (fun K hK=>?_)
     go_simp;(first | (go_at_call 71;(first | (with_reducible refine (q1 _).mono ?_) | (with_reducible refine (q2 _).mono ?_));rintro e w9 ⟨rfl,hw9⟩;subst hw9) | (go_at_call 72;(with_reducible refine (q3 _).mono ?_);rintro e w9 ⟨rfl,hw9⟩;subst hw9) | skip)
     refine shut_go hK KS ?_
     clear hK K
     refine wpSched_force (fun K hK=>?_)
     go_simp;(first | (go_at_call 71;(first | (with_reducible refine (q1 _).mono ?_) | (with_reducible refine (q2 _).mono ?_));rintro e w9 ⟨rfl,hw9⟩;subst hw9) | (go_at_call 72;(with_reducible refine (q3 _).mono ?_);rintro e w9 ⟨rfl,hw9⟩;subst hw9) | skip)
     refine shut_go hK KS ?_
     clear hK K
     refine wpSched_force (fun K hK=>?_)
     go_simp;(first | (go_at_call 71;(first | (with_reducible refine (q1 _).mono ?_) | (with_reducible refine (q2 _).mono ?_));rintro e w9 ⟨rfl,hw9⟩;subst hw9) | (go_at_call 72;(with_reducible refine (q3 _).mono ?_);rintro e w9 ⟨rfl,hw9⟩;subst hw9) | skip)
     refine shut_go hK KS ?_
     clear hK K
     iterate 2 refine wpSched_t ?_
     refine wpSched_last ?_
     first | simp only [List.map_nil] | simp only [List.map_cons,List.map_nil]
     have BS2:Blk wr.drew sb 70 _:=BS.dr
     have E1:Blk wr.drew W.heap.size 28 _:=B1.dr
     have E2:Blk wr.drew (W.heap.size+1) 27 _:=B2.dr
     have E4:Blk wr.drew (W.heap.size+1+1) 70 _:=B4.dr
     have hb2:=bDr hb
     clear BS B1 B2 B4 hb k0 k1 k2 q1 q2 q3 KS
     generalize wr.drew=w5 at *
     obtain ⟨z0,z1,z2,z3,z4,z5⟩:=BS2.six_free
     obtain ⟨m0,m1,m2,m3,m4,m5⟩:=six_of BS2
     have BN:=BS2.setL1 P1 T
     go_wp2_with fail
     refine NoPanic.normal ?_
     go_wp2_with fail
     exact ⟨⟨2,_,rfl,bSet (bSet hb2 (by show W.heap.size≤sb;omega) _) (by show W.heap.size≤sb;omega) _,(E1.far (by show W.heap.size≠sb;omega) _).far (by show W.heap.size≠sb;omega) _,(E2.far (by show W.heap.size+1≠sb;omega) _).far (by show W.heap.size+1≠sb;omega) _,(E4.far (by show W.heap.size+1+1≠sb;omega) _).far (by show W.heap.size+1+1≠sb;omega) _,BN,.inr (.inr (.inl rfl)),HN⟩,by simp [intOf]⟩
   ·have q:=ref_element n2 wr
    obtain ⟨k0,k1,k2⟩:=three B1
    cases hc:elemB n2
    ·have hbad:Hid (sealB n0 n1 n2=false):=Lib.hid (SealAt.bad 2 hc)
     rw [elemB_no hc] at q
     clear hc
     obtain ⟨z0,z1,z2,z3,z4,z5⟩:=B4.six_free
     obtain ⟨m0,m1,m2,m3,m4,m5⟩:=B4.six
     have C5:=B4.set6 (.int .i64 0) (.int .i64 0) (.int .i64 0) (.int .i64 0) (.int .i64 0) (.int .i64 0)
     have h5:=bSet6 (b:=W.heap.size+1+1) hb (by omega) (.int .i64 0) (.int .i64 0) (.int .i64 0) (.int .i64 0) (.int .i64 0) (.int .i64 0)
     generalize elemV n2=X at *
     go_wp2_with fail
     (with_reducible refine q.mono ?_)
     rintro e w' ⟨rfl,rfl⟩
     clear q
     go_wp2_with fail
     change bodyPost _ _ _ _ _ (set6 wr (W.heap.size+1+1) (.int .i64 0) (.int .i64 0) (.int .i64 0) (.int .i64 0) (.int .i64 0) (.int .i64 0))
     obtain ⟨e0,e1,e2,e3,e4,e5⟩:=C5.six
     exact bodyPost_ret (v := .tuple #[zeroL.agg,.int .i64 100]) (by simp [results,Tryz.results38,go_sem,zeroL,Ltr.agg,e0,e1,e2,e3,e4,e5]) rfl ⟨ret_li (by rw [Hv.out];unfold sealV;rw [if_pos Hk.out,hbad.out];rfl) (by rw [He.out];unfold sealE;rw [if_pos Hk.out,hbad.out];rfl),h5⟩
    ·rw [elemB_yes hc] at q
     have q1:=fun w=>ref_pw 4 r2 w
     have q2:=fun w=>ref_pw key r2 w
     obtain ⟨X,hX⟩:∃ X,Hid (X=elemV n2):=⟨_,Lib.hid rfl⟩
     obtain ⟨P1,hP1⟩:∃ P1,Hid (P1=powV 4 r2):=⟨_,Lib.hid rfl⟩
     obtain ⟨P2,hP2⟩:∃ P2,Hid (P2=powV key r2):=⟨_,Lib.hid rfl⟩
     have q3:=fun w=>ref_times X P2 w (by rw [hX.out];exact elemV_inP) (by rw [hP2.out];exact powV_inP _ _)
     obtain ⟨T,hT⟩:∃ T,Hid (T=X*P2 % 2147483579):=⟨_,Lib.hid rfl⟩
     rw [←hX.out] at q
     rw [←hP1.out] at q1
     rw [←hP2.out] at q2
     rw [←hT.out] at q3
     have HN:=Lib.hid (SealAt.next 2 (show (2:Fin 3).val=(2:Int).toNat by rfl) HA.out hc (a:=P1) (b:=T) hP1.out (by rw [hT.out,hX.out,hP2.out];rfl))
     clear hc hX hP1 hP2 hT HA
     have KS:Hid (∀ w',Below wr.heap.size wr w'→w'.cell? ⟨W.heap.size+1,2,none⟩=some (.int .i64 r2)):=Lib.hid (fun w' h=>(B2.below h B2.lt).cell 2)
     go_wp2_with fail
     (with_reducible refine q.mono ?_)
     rintro e w' ⟨rfl,rfl⟩
     clear q
     go_upto_region 10 with fail
     refine wp_region_schB (f:=14) KS [(0,1),(1,1),(2,1),(3,2),(5,1),(6,1),(7,1),(8,1),(9,2),(4,0),(10,0),(11,0),(12,1),(13,1),(14,3)] ?_
     simp only [pickS,List.getElem?_cons_zero,List.getElem?_cons_succ]
     iterate 3 refine wpSched_t ?_
     refine wpSched_r ?_
     iterate 4 refine wpSched_t ?_
     refine wpSched_r ?_
     refine wpSched_force (fun K hK=>?_)
     go_simp;(first | (go_at_call 71;(first | (with_reducible refine (q1 _).mono ?_) | (with_reducible refine (q2 _).mono ?_));rintro e w9 ⟨rfl,hw9⟩;subst hw9) | (go_at_call 72;(with_reducible refine (q3 _).mono ?_);rintro e w9 ⟨rfl,hw9⟩;subst hw9) | skip)
     refine shut_go hK KS ?_
     clear hK K
     refine wpSched_force (fun K hK=>?_)
     go_simp;(first | (go_at_call 71;(first | (with_reducible refine (q1 _).mono ?_) | (with_reducible refine (q2 _).mono ?_));rintro e w9 ⟨rfl,hw9⟩;subst hw9) | (go_at_call 72;(with_reducible refine (q3 _).mono ?_);rintro e w9 ⟨rfl,hw9⟩;subst hw9) | skip)
     refine shut_go hK KS ?_
     clear hK K
     refine wpSched_force (fun K hK=>?_)
     go_simp;(first | (go_at_call 71;(first | (with_reducible refine (q1 _).mono ?_) | (with_reducible refine (q2 _).mono ?_));rintro e w9 ⟨rfl,hw9⟩;subst hw9) | (go_at_call 72;(with_reducible refine (q3 _).mono ?_);rintro e w9 ⟨rfl,hw9⟩;subst hw9) | skip)
     refine shut_go hK KS ?_
     clear hK K
     iterate 2 refine wpSched_t ?_
     refine wpSched_last ?_
     first | simp only [List.map_nil] | simp only [List.map_cons,List.map_nil]
     have BS2:Blk wr.drew sb 70 _:=BS.dr
     have E1:Blk wr.drew W.heap.size 28 _:=B1.dr
     have E2:Blk wr.drew (W.heap.size+1) 27 _:=B2.dr
     have E4:Blk wr.drew (W.heap.size+1+1) 70 _:=B4.dr
     have hb2:=bDr hb
     clear BS B1 B2 B4 hb k0 k1 k2 q1 q2 q3 KS
     generalize wr.drew=w5 at *
     obtain ⟨z0,z1,z2,z3,z4,z5⟩:=BS2.six_free
     obtain ⟨m0,m1,m2,m3,m4,m5⟩:=six_of BS2
     have BN:=BS2.setL2 P1 T
     go_wp2_with fail
     refine NoPanic.normal ?_
     go_wp2_with fail
     exact ⟨⟨3,_,rfl,bSet (bSet hb2 (by show W.heap.size≤sb;omega) _) (by show W.heap.size≤sb;omega) _,(E1.far (by show W.heap.size≠sb;omega) _).far (by show W.heap.size≠sb;omega) _,(E2.far (by show W.heap.size+1≠sb;omega) _).far (by show W.heap.size+1≠sb;omega) _,(E4.far (by show W.heap.size+1+1≠sb;omega) _).far (by show W.heap.size+1+1≠sb;omega) _,BN,.inr (.inr (.inr rfl)),HN⟩,by simp [intOf]⟩
   ·have Hy:=Lib.hid (SealAt.done Hk.out HA.out)
    obtain ⟨z0,z1,z2,z3,z4,z5⟩:=B4.six_free
    obtain ⟨m0,m1,m2,m3,m4,m5⟩:=six_of BS
    obtain ⟨u0,u1,u2,u3,u4,u5⟩:=B4.six
    clear BS HA
    have C5:=B4.set6 (.int .i64 y.a0) (.int .i64 y.b0) (.int .i64 y.a1) (.int .i64 y.b1) (.int .i64 y.a2) (.int .i64 y.b2)
    have h5:=bSet6 (b:=W.heap.size+1+1) hb (by omega) (.int .i64 y.a0) (.int .i64 y.b0) (.int .i64 y.a1) (.int .i64 y.b1) (.int .i64 y.a2) (.int .i64 y.b2)
    go_wp2_with fail
    change bodyPost _ _ _ _ _ (set6 wr (W.heap.size+1+1) (.int .i64 y.a0) (.int .i64 y.b0) (.int .i64 y.a1) (.int .i64 y.b1) (.int .i64 y.a2) (.int .i64 y.b2))
    obtain ⟨e0,e1,e2,e3,e4,e5⟩:=C5.six
    exact bodyPost_ret (v := .tuple #[y.agg,.int .i64 0]) (by simp [results,Tryz.results38,go_sem,Ltr.agg,e0,e1,e2,e3,e4,e5]) rfl ⟨ret_li (by rw [Hv.out,Hy.out.1]) (by rw [He.out,Hy.out.2]),h5⟩
theorem mulL_pair (x z:Int):mulL [x,z]=mulV x z:=by
 unfold mulL
 simp only [List.foldl]
 by_cases hx:validB x=true
 ·rw [mulV_eq valid_one hx,Int.one_mul,modP hx]
 ·have h1:mulV 1 x=0:=(mulV_no2 hx).1
  have h2:mulV x z=0:=(mulV_no1 hx).1
  have h0:¬validB 0=true:=by
   intro h
   have:=validB_rng h
   omega
  rw [h1,h2,(mulV_no1 h0).1]
theorem pair_two {w:World} {b:Nat} {t:TypeId} {v u:Value} (h:Blk w b t #[v,u]):w.cell? ⟨b,0,none⟩=some v∧w.cell? ⟨b,1,none⟩=some u:=⟨h.cell 0,h.cell 1⟩
theorem ref_eformed (key a d E S:Int) (W:World) :
  Calls Tryz.prog 156 #[.int .i64 key,.int .i64 a,.int .i64 d,.agg #[.int .i64 E,.int .i64 S]] W (Ret (.bool (chk1 key a d&&chk2 E S)) W):=by
 obtain ⟨v,hv⟩:∃ v,v=(chk1 key a d&&chk2 E S):=⟨_,rfl⟩
 rw [←hv]
 unfold chk1 chk2 ordB at hv
 have BE:=Blk.new W 110 #[.int .i64 E,.int .i64 S] _ rfl
 have hb:=bAl (bRefl W) (.cells #[.int .i64 E,.int .i64 S] 110)
 go_enter Tryz.func156,Tryz.ntmps156
 go_upto_region 1 with fail
 generalize W.alloc (.cells #[.int .i64 E,.int .i64 S] 110)=w1 at *
 obtain ⟨c0,c1⟩:=pair_two BE
 have q1:=ref_valid key w1
 have q2:=ref_valid a w1
 have q3:=ref_valid d w1
 cases h1:validB key
 ·have Hv:Hid (v=false):=by show _=_;rw [hv,h1];simp
  rw [h1] at q1
  clear hv h1
  go_wp2_with fail
  (with_reducible refine q1.mono ?_)
  rintro e w' ⟨rfl,rfl⟩
  go_wp2_with fail
  go_ret
  exact ⟨ret_bool Hv.out.symm,hb⟩
 cases h2:validB a
 ·have Hv:Hid (v=false):=by show _=_;rw [hv,h2];simp
  rw [h1] at q1
  rw [h2] at q2
  clear hv h1 h2
  go_wp2_with fail
  (with_reducible refine q1.mono ?_)
  rintro e w' ⟨rfl,rfl⟩
  go_wp2_with fail
  (with_reducible refine q2.mono ?_)
  rintro e w' ⟨rfl,rfl⟩
  go_wp2_with fail
  go_ret
  exact ⟨ret_bool Hv.out.symm,hb⟩
 cases h3:validB d
 ·have Hv:Hid (v=false):=by show _=_;rw [hv,h3];simp
  rw [h1] at q1
  rw [h2] at q2
  rw [h3] at q3
  clear hv h1 h2 h3
  go_wp2_with fail
  (with_reducible refine q1.mono ?_)
  rintro e w' ⟨rfl,rfl⟩
  go_wp2_with fail
  (with_reducible refine q2.mono ?_)
  rintro e w' ⟨rfl,rfl⟩
  go_wp2_with fail
  (with_reducible refine q3.mono ?_)
  rintro e w' ⟨rfl,rfl⟩
  go_wp2_with fail
  go_ret
  exact ⟨ret_bool Hv.out.symm,hb⟩
 rw [h1] at q1
 rw [h2] at q2
 rw [h3] at q3
 rw [h1,h2,h3] at hv
 clear h1 h2 h3
 by_cases e0:0≤E
 case neg =>
  have Hv:Hid (v=false):=by show _=_;rw [hv];simp;omega
  have g:decide (0≤E)=false:=by rw [decide_eq_false];omega
  clear hv
  clear e0
  go_wp2_with fail
  (with_reducible refine q1.mono ?_)
  rintro e w' ⟨rfl,rfl⟩
  go_wp2_with fail
  (with_reducible refine q2.mono ?_)
  rintro e w' ⟨rfl,rfl⟩
  go_wp2_with fail
  (with_reducible refine q3.mono ?_)
  rintro e w' ⟨rfl,rfl⟩
  go_wp2_with fail
  go_ret
  exact ⟨ret_bool Hv.out.symm,hb⟩
 by_cases e1:E<1073741789
 case neg =>
  have Hv:Hid (v=false):=by show _=_;rw [hv];simp;omega
  have g:decide (E<1073741789)=false:=by rw [decide_eq_false];omega
  clear hv
  clear e1
  go_wp2_with fail
  (with_reducible refine q1.mono ?_)
  rintro e w' ⟨rfl,rfl⟩
  go_wp2_with fail
  (with_reducible refine q2.mono ?_)
  rintro e w' ⟨rfl,rfl⟩
  go_wp2_with fail
  (with_reducible refine q3.mono ?_)
  rintro e w' ⟨rfl,rfl⟩
  go_wp2_with fail
  go_ret
  exact ⟨ret_bool Hv.out.symm,hb⟩
 by_cases s0:0≤S
 case neg =>
  have Hv:Hid (v=false):=by show _=_;rw [hv];simp;omega
  have g:decide (0≤S)=false:=by rw [decide_eq_false];omega
  clear hv
  clear s0
  go_wp2_with fail
  (with_reducible refine q1.mono ?_)
  rintro e w' ⟨rfl,rfl⟩
  go_wp2_with fail
  (with_reducible refine q2.mono ?_)
  rintro e w' ⟨rfl,rfl⟩
  go_wp2_with fail
  (with_reducible refine q3.mono ?_)
  rintro e w' ⟨rfl,rfl⟩
  go_wp2_with fail
  go_ret
  exact ⟨ret_bool Hv.out.symm,hb⟩
 by_cases s1:S<1073741789
 case neg =>
  have Hv:Hid (v=false):=by show _=_;rw [hv];simp;omega
  have g:decide (S<1073741789)=false:=by rw [decide_eq_false];omega
  clear hv
  clear s1
  go_wp2_with fail
  (with_reducible refine q1.mono ?_)
  rintro e w' ⟨rfl,rfl⟩
  go_wp2_with fail
  (with_reducible refine q2.mono ?_)
  rintro e w' ⟨rfl,rfl⟩
  go_wp2_with fail
  (with_reducible refine q3.mono ?_)
  rintro e w' ⟨rfl,rfl⟩
  go_wp2_with fail
  go_ret
  exact ⟨ret_bool Hv.out.symm,hb⟩
 have Hv:Hid (v=true):=by show _=_;rw [hv];simp;omega
 clear hv
 go_wp2_with fail
 (with_reducible refine q1.mono ?_)
 rintro e w' ⟨rfl,rfl⟩
 go_wp2_with fail
 (with_reducible refine q2.mono ?_)
 rintro e w' ⟨rfl,rfl⟩
 go_wp2_with fail
 (with_reducible refine q3.mono ?_)
 rintro e w' ⟨rfl,rfl⟩
 go_wp2_with fail
 go_ret
 exact ⟨ret_bool Hv.out.symm,hb⟩
theorem neg_in {n:Int} (h:0≤n∧n<1073741789):IntKind.i64.wrap (-n) = -n:=by rw [IntKind.wrap_i64];omega
theorem ref_commits (key a d E S:Int) (W:World) (hE:0≤E∧E<1073741789) :
  Calls Tryz.prog 157 #[.int .i64 key,.int .i64 a,.int .i64 d,.agg #[.int .i64 E,.int .i64 S]] W (Ret (.tuple #[.int .i64 (rV key E S),.int .i64 (sV a d E S)]) W):=by
 have hn:=neg_in hE
 obtain ⟨x,hx⟩:∃ x,Hid (x=rV key E S):=⟨_,Lib.hid rfl⟩
 obtain ⟨y,hy⟩:∃ y,Hid (y=sV a d E S):=⟨_,Lib.hid rfl⟩
 have q1:=fun w=>ref_pow 4 S w
 have q2:=fun w=>ref_pow key (-E) w
 have q3:=fun w=>ref_pow a S w
 have q4:=fun w=>ref_pow d (-E) w
 have q5:=fun w=>ref_mul (powV 4 S) (powV key (-E)) w
 have q6:=fun w=>ref_mul (powV a S) (powV d (-E)) w
 rw [←mulL_pair] at q5 q6
 change ∀ w,Calls _ _ _ w (Same (.tuple #[.int .i64 (rV key E S),_]) w) at q5
 change ∀ w,Calls _ _ _ w (Same (.tuple #[.int .i64 (sV a d E S),_]) w) at q6
 rw [←hx.out] at q5 ⊢
 rw [←hy.out] at q6 ⊢
 generalize powV 4 S=u1 at *
 generalize powV key (-E)=u2 at *
 generalize powV a S=u3 at *
 generalize powV d (-E)=u4 at *
 generalize powE 4=f1 at *
 generalize powE key=f2 at *
 generalize powE a=f3 at *
 generalize powE d=f4 at *
 generalize mulE u1 u2=f5 at *
 generalize mulE u3 u4=f6 at *
 obtain ⟨m,hm⟩:∃ m,m = -E:=⟨_,rfl⟩
 rw [←hm] at q2 q4 hn
 have BE:=Blk.new W 110 #[.int .i64 E,.int .i64 S] _ rfl
 have hb:=bAl (bRefl W) (.cells #[.int .i64 E,.int .i64 S] 110)
 subst hm
 clear hx hy
 go_enter Tryz.func157,Tryz.ntmps157
 go_upto_region 1 with fail
 generalize W.alloc (.cells #[.int .i64 E,.int .i64 S] 110)=w1 at *
 obtain ⟨c0,c1⟩:=pair_two BE
 go_wp2_with fail
 (with_reducible refine (q1 _).mono ?_)
 rintro e w' ⟨rfl,rfl⟩
 go_wp2_with fail
 (with_reducible refine (q2 _).mono ?_)
 rintro e w' ⟨rfl,rfl⟩
 go_wp2_with fail
 (with_reducible refine (q3 _).mono ?_)
 rintro e w' ⟨rfl,rfl⟩
 go_wp2_with fail
 (with_reducible refine (q4 _).mono ?_)
 rintro e w' ⟨rfl,rfl⟩
 go_wp2_with fail
 (with_reducible refine (q5 _).mono ?_)
 rintro e w' ⟨rfl,rfl⟩
 go_wp2_with fail
 (with_reducible refine (q6 _).mono ?_)
 rintro e w' ⟨rfl,rfl⟩
 go_wp2_with fail
 go_ret2
 exact ⟨rfl,hb⟩
end Go.Proofs.YtoeobcmmafncmaaGreatDoor

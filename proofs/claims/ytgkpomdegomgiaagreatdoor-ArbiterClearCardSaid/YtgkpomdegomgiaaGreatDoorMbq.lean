/- The reference's elgamal: Again. -/
import Derived.Test.YtgkpomdegomgiaaGreatDoorMbl
set_option maxRecDepth 1000000
set_option maxHeartbeats 16000000
namespace Go.Proofs.YtgkpomdegomgiaaGreatDoor
open Go.RowKit
def AgainAt (key r0 r1 r2:Int) (x:Ltr) (k:Nat) (y:Ltr):Prop:=∀ j:Fin 3,(j.val<k→y.aAt j=x.aAt j*powV 4 (nAt r0 r1 r2 j) % 2147483579∧y.bAt j=x.bAt j*powV key (nAt r0 r1 r2 j) % 2147483579)∧(k≤j.val→y.aAt j=x.aAt j∧y.bAt j=x.bAt j)
theorem AgainAt.start {key r0 r1 r2:Int} (x:Ltr):AgainAt key r0 r1 r2 x 0 x:=fun j=>⟨fun h=>by omega,fun _=>⟨rfl,rfl⟩⟩
theorem AgainAt.next {key r0 r1 r2:Int} {x y:Ltr} {k:Nat} (i:Fin 3) (hi:i.val=k) (h:AgainAt key r0 r1 r2 x k y) {a b:Int} (ha:a=x.aAt i*powV 4 (nAt r0 r1 r2 i) % 2147483579) (hb:b=x.bAt i*powV key (nAt r0 r1 r2 i) % 2147483579) :
    AgainAt key r0 r1 r2 x (k+1) (setL y i a b):=fun j=>by
  obtain ⟨e1,e2⟩:=setL_at y i j a b
  rw [e1,e2]
  by_cases hji:j=i
  · subst hji
    rw [if_pos rfl,if_pos rfl]
    exact ⟨fun _=>⟨ha,hb⟩,fun h=>by omega⟩
  · rw [if_neg hji,if_neg hji]
    have:j.val≠i.val:=fun e=>hji (Fin.ext e)
    exact ⟨fun hj=>(h j).1 (by omega),fun hj=>(h j).2 (by omega)⟩
theorem AgainAt.done {key r0 r1 r2:Int} {x y:Ltr} (h:AgainAt key r0 r1 r2 x 3 y):moreL key r0 r1 r2 x=y:=by
  obtain ⟨a0,b0⟩:=(h 0).1 (by decide)
  obtain ⟨a1,b1⟩:=(h 1).1 (by decide)
  obtain ⟨a2,b2⟩:=(h 2).1 (by decide)
  refine Ltr.ext3 fun j=>?_
  match j with
  | 0=>rw [a0,b0];unfold moreL moreU;simp only [timesL_two,Ltr.aAt,Ltr.bAt,nAt,and_self]
  | 1=>rw [a1,b1];unfold moreL moreU;simp only [timesL_two,Ltr.aAt,Ltr.bAt,nAt,and_self]
  | 2=>rw [a2,b2];unfold moreL moreU;simp only [timesL_two,Ltr.aAt,Ltr.bAt,nAt,and_self]
theorem ref_again (key r0 r1 r2:Int) (x:Ltr) (W:World) :
    Calls Tryz.prog 157 #[.int .i64 key,.agg #[.int .i64 x.a0,.int .i64 x.b0,.int .i64 x.a1,.int .i64 x.b1,.int .i64 x.a2,.int .i64 x.b2],.agg #[.int .i64 r0,.int .i64 r1,.int .i64 r2]] W (Ret (.tuple #[(againV key x r0 r1 r2).agg,.int .i64 (againE key x)]) W):=by
  obtain ⟨W3,hW3⟩:∃ W3,W3=((W.alloc (.cells #[.int .i64 x.a0,.int .i64 x.b0,.int .i64 x.a1,.int .i64 x.b1,.int .i64 x.a2,.int .i64 x.b2] 70)).alloc (.cells #[.int .i64 r0,.int .i64 r1,.int .i64 r2] 27)).alloc (.cells #[.int .i64 0,.int .i64 0,.int .i64 0,.int .i64 0,.int .i64 0,.int .i64 0] 70):=⟨_,rfl⟩
  have h3:Below W.heap.size W W3:=by rw [hW3];exact bAl (bAl (bAl (bRefl W) _) _) _
  obtain ⟨v,hv⟩:∃ v,v=againV key x r0 r1 r2:=⟨_,rfl⟩
  obtain ⟨er,her⟩:∃ v,v=againE key x:=⟨_,rfl⟩
  rw [←hv,←her]
  have B1:Blk W3 W.heap.size 70 x.cells:=by rw [hW3];exact ((Blk.new _ _ _ _ rfl).alloc _).alloc _
  have B2:Blk W3 (W.heap.size+1) 27 #[.int .i64 r0,.int .i64 r1,.int .i64 r2]:=by rw [hW3];exact (Blk.new _ _ _ _ (by simp)).alloc _
  have B4:Blk W3 (W.heap.size+1+1) 70 #[.int .i64 0,.int .i64 0,.int .i64 0,.int .i64 0,.int .i64 0,.int .i64 0]:=by rw [hW3];exact Blk.new _ _ _ _ (by simp)
  have q:=ref_valid key W3
  cases hs:validB key
  · have Hv:Hid (v=zeroL):=by show _=_;rw [hv];exact if_neg (by simp [hs])
    have He:Hid (er=90):=by show _=_;rw [her];exact if_neg (by simp [hs])
    rw [hs] at q
    have C5:=B4.set6 (.int .i64 0) (.int .i64 0) (.int .i64 0) (.int .i64 0) (.int .i64 0) (.int .i64 0)
    have h5:=bSet6 (b:=W.heap.size+1+1) h3 (by omega) (.int .i64 0) (.int .i64 0) (.int .i64 0) (.int .i64 0) (.int .i64 0) (.int .i64 0)
    clear hv her hs B1 B2
    go_enter Tryz.func157,Tryz.ntmps157
    unfold Ltr.agg
    go_upto_region 1 with fail
    rw [←hW3]
    clear hW3
    obtain ⟨m0,m1,m2,m3,m4,m5⟩:=B4.six
    obtain ⟨z0,z1,z2,z3,z4,z5⟩:=B4.six_free
    go_wp2_with fail
    (with_reducible refine q.mono ?_)
    rintro e w' ⟨rfl,rfl⟩
    clear q
    go_wp2_with fail
    change bodyPost _ _ _ _ _ (set6 W3 (W.heap.size+1+1) (.int .i64 0) (.int .i64 0) (.int .i64 0) (.int .i64 0) (.int .i64 0) (.int .i64 0))
    obtain ⟨e0,e1,e2,e3,e4,e5⟩:=C5.six
    exact bodyPost_ret (v := .tuple #[zeroL.agg,.int .i64 90]) (by simp [results,Tryz.results157,go_sem,zeroL,Ltr.agg,e0,e1,e2,e3,e4,e5]) rfl ⟨ret_li Hv.out He.out,h5⟩
  rw [hs] at q
  have q2:=ref_check x W3
  by_cases hg:x.good=true
  case neg =>
    have Hv:Hid (v=zeroL):=by show _=_;rw [hv];unfold againV;rw [if_pos hs,if_neg hg]
    have He:Hid (er=100):=by show _=_;rw [her];unfold againE;rw [if_pos hs,if_neg hg]
    rw [show x.err=100 from if_neg hg] at q2
    clear hv her hs hg
    go_enter Tryz.func157,Tryz.ntmps157
    unfold Ltr.agg
    go_upto_region 1 with fail
    rw [←hW3]
    clear hW3
    obtain ⟨k0,k1,k2,k3,k4,k5⟩:=six_of B1
    go_wp2_with fail
    (with_reducible refine q.mono ?_)
    rintro e w' ⟨rfl,rfl⟩
    clear q
    go_wp2_with fail
    (with_reducible refine q2.mono ?_)
    rintro e w' ⟨rfl,b'⟩
    clear q2 k0 k1 k2 k3 k4 k5
    have D4:=B4.below b' B4.lt
    have h4:=bCall h3 b'
    obtain ⟨m0,m1,m2,m3,m4,m5⟩:=D4.six
    obtain ⟨z0,z1,z2,z3,z4,z5⟩:=D4.six_free
    have C5:=D4.set6 (.int .i64 0) (.int .i64 0) (.int .i64 0) (.int .i64 0) (.int .i64 0) (.int .i64 0)
    have h5:=bSet6 (b:=W.heap.size+1+1) h4 (by omega) (.int .i64 0) (.int .i64 0) (.int .i64 0) (.int .i64 0) (.int .i64 0) (.int .i64 0)
    go_wp2_with fail
    change bodyPost _ _ _ _ _ (set6 w' (W.heap.size+1+1) (.int .i64 0) (.int .i64 0) (.int .i64 0) (.int .i64 0) (.int .i64 0) (.int .i64 0))
    obtain ⟨e0,e1,e2,e3,e4,e5⟩:=C5.six
    exact bodyPost_ret (v := .tuple #[zeroL.agg,.int .i64 100]) (by simp [results,Tryz.results157,go_sem,zeroL,Ltr.agg,e0,e1,e2,e3,e4,e5]) rfl ⟨ret_li Hv.out He.out,h5⟩
  have Hv:Hid (v=moreL key r0 r1 r2 x):=by show _=_;rw [hv];unfold againV;rw [if_pos hs,if_pos hg]
  have He:Hid (er=0):=by show _=_;rw [her];unfold againE;rw [if_pos hs,if_pos hg]
  have HP:=Lib.hid (good_inP hg)
  rw [show x.err=0 from if_pos hg] at q2
  clear hv her hs hg
  go_enter Tryz.func157,Tryz.ntmps157
  unfold Ltr.agg
  go_upto_region 1 with fail
  rw [←hW3]
  clear hW3
  obtain ⟨k0,k1,k2,k3,k4,k5⟩:=six_of B1
  go_wp2_with fail
  (with_reducible refine q.mono ?_)
  rintro e w' ⟨rfl,rfl⟩
  clear q
  go_wp2_with fail
  (with_reducible refine q2.mono ?_)
  rintro e w4 ⟨rfl,b'⟩
  have D1:=B1.below b' B1.lt
  have D2:=B2.below b' B2.lt
  have D4:=B4.below b' B4.lt
  have hb:=bCall h3 b'
  clear q2 k0 k1 k2 k3 k4 k5 B1 B2 B4 h3 b'
  go_wp2_with fail
  go_loopw [8] (fun i wr=>∃ (k:Int) (y:Ltr),i = .int .i64 k∧Below W.heap.size W wr∧Blk wr (W.heap.size+1) 27 #[.int .i64 r0,.int .i64 r1,.int .i64 r2]∧Blk wr (W.heap.size+1+1) 70 #[.int .i64 0,.int .i64 0,.int .i64 0,.int .i64 0,.int .i64 0,.int .i64 0]∧Blk wr W.heap.size 70 y.cells∧(k=0∨k=1∨k=2∨k=3)∧Hid (AgainAt key r0 r1 r2 x k.toNat y)) (fun i _=>3 - (intOf i).toNat)
  case atStart=>exact ⟨0,x,rfl,hb,D2,D4,D1,.inl rfl,Lib.hid (AgainAt.start x)⟩
  case round =>
    clear hb D1 D2 D4
    obtain ⟨k,y,rfl,hb,B2,B4,BS,hk4,HA⟩:=hrel
    rcases hk4 with rfl | rfl | rfl | rfl
    · have hyx:=(HA.out 0).2 (by decide)
      have q1:=fun w=>ref_pw 4 r0 w
      have q2:=fun w=>ref_pw key r0 w
      obtain ⟨P1,hP1⟩:∃ P1,Hid (P1=powV 4 r0):=⟨_,Lib.hid rfl⟩
      obtain ⟨P2,hP2⟩:∃ P2,Hid (P2=powV key r0):=⟨_,Lib.hid rfl⟩
      obtain ⟨YA,hYA⟩:∃ Y,Hid (Y=y.a0):=⟨_,Lib.hid rfl⟩
      obtain ⟨YB,hYB⟩:∃ Y,Hid (Y=y.b0):=⟨_,Lib.hid rfl⟩
      have hya:Hid (YA=x.a0):=Lib.hid (hYA.out.trans hyx.1)
      have hyb:Hid (YB=x.b0):=Lib.hid (hYB.out.trans hyx.2)
      have q3:=fun w=>ref_times YA P1 w (by rw [hya.out];exact HP.out.1.1) (by rw [hP1.out];exact powV_inP _ _)
      have q4:=fun w=>ref_times YB P2 w (by rw [hyb.out];exact HP.out.1.2) (by rw [hP2.out];exact powV_inP _ _)
      obtain ⟨TA,hTA⟩:∃ T,Hid (T=YA*P1 % 2147483579):=⟨_,Lib.hid rfl⟩
      obtain ⟨TB,hTB⟩:∃ T,Hid (T=YB*P2 % 2147483579):=⟨_,Lib.hid rfl⟩
      rw [←hP1.out] at q1
      rw [←hP2.out] at q2
      rw [←hTA.out] at q3
      rw [←hTB.out] at q4
      have HN:=Lib.hid (AgainAt.next 0 (show (0:Fin 3).val=(0:Int).toNat by rfl) HA.out (a:=TA) (b:=TB) (by rw [hTA.out,hya.out,hP1.out];rfl) (by rw [hTB.out,hyb.out,hP2.out];rfl))
      have KS:Hid (∀ w',Below wr.heap.size wr w'→w'.cell? ⟨W.heap.size,0,none⟩=some (.int .i64 YA)∧w'.cell? ⟨W.heap.size,1,none⟩=some (.int .i64 YB)∧w'.cell? ⟨W.heap.size+1,0,none⟩=some (.int .i64 r0)):=Lib.hid (fun w' h=>⟨by rw [hYA.out];exact (BS.below h BS.lt).cell 0,by rw [hYB.out];exact (BS.below h BS.lt).cell 1,(B2.below h B2.lt).cell 0⟩)
      clear hP1 hP2 hYA hYB hya hyb hTA hTB hyx HA
      go_upto_region 8 with fail
      refine wp_region_schB (f:=22) KS [(0,1),(1,1),(2,1),(3,1),(4,2),(5,1),(6,1),(7,2),(10,1),(11,1),(12,1),(13,2),(14,1),(15,1),(16,1),(17,2),(8,0),(9,0),(18,0),(19,0),(20,1),(21,1),(22,3)] ?_
      simp only [pickS,List.getElem?_cons_zero,List.getElem?_cons_succ]
      refine wpSched_t ?_
      refine wpSched_t ?_
      refine wpSched_t ?_
      refine wpSched_t ?_
      refine wpSched_r ?_
      refine wpSched_t ?_
      refine wpSched_t ?_
      refine wpSched_r ?_
      refine wpSched_t ?_
      refine wpSched_t ?_
      refine wpSched_t ?_
      refine wpSched_r ?_
      refine wpSched_t ?_
      refine wpSched_t ?_
      refine wpSched_t ?_
      refine wpSched_r ?_
      refine wpSched_force (fun K hK=>?_)
      go_simp;(first | (go_at_call 96;(first | (with_reducible refine (q1 _).mono ?_) | (with_reducible refine (q2 _).mono ?_));rintro e w9 ⟨rfl,hw9⟩;subst hw9) | (go_at_call 97;(first | (with_reducible refine (q3 _).mono ?_) | (with_reducible refine (q4 _).mono ?_));rintro e w9 ⟨rfl,hw9⟩;subst hw9) | skip)
      refine shut_go hK KS ?_
      clear hK K
      refine wpSched_force (fun K hK=>?_)
      go_simp;(first | (go_at_call 96;(first | (with_reducible refine (q1 _).mono ?_) | (with_reducible refine (q2 _).mono ?_));rintro e w9 ⟨rfl,hw9⟩;subst hw9) | (go_at_call 97;(first | (with_reducible refine (q3 _).mono ?_) | (with_reducible refine (q4 _).mono ?_));rintro e w9 ⟨rfl,hw9⟩;subst hw9) | skip)
      refine shut_go hK KS ?_
      clear hK K
      refine wpSched_force (fun K hK=>?_)
      go_simp;(first | (go_at_call 96;(first | (with_reducible refine (q1 _).mono ?_) | (with_reducible refine (q2 _).mono ?_));rintro e w9 ⟨rfl,hw9⟩;subst hw9) | (go_at_call 97;(first | (with_reducible refine (q3 _).mono ?_) | (with_reducible refine (q4 _).mono ?_));rintro e w9 ⟨rfl,hw9⟩;subst hw9) | skip)
      refine shut_go hK KS ?_
      clear hK K
      refine wpSched_force (fun K hK=>?_)
      go_simp;(first | (go_at_call 96;(first | (with_reducible refine (q1 _).mono ?_) | (with_reducible refine (q2 _).mono ?_));rintro e w9 ⟨rfl,hw9⟩;subst hw9) | (go_at_call 97;(first | (with_reducible refine (q3 _).mono ?_) | (with_reducible refine (q4 _).mono ?_));rintro e w9 ⟨rfl,hw9⟩;subst hw9) | skip)
      refine shut_go hK KS ?_
      clear hK K
      refine wpSched_t ?_
      refine wpSched_t ?_
      refine wpSched_last ?_
      first | simp only [List.map_nil] | simp only [List.map_cons,List.map_nil]
      have BS2:Blk wr.drew W.heap.size 70 _:=BS.dr
      have E2:Blk wr.drew (W.heap.size+1) 27 _:=B2.dr
      have E4:Blk wr.drew (W.heap.size+1+1) 70 _:=B4.dr
      have hb2:=bDr hb
      clear BS B2 B4 hb q1 q2 q3 q4 KS
      generalize wr.drew=w5 at *
      obtain ⟨z0,z1,z2,z3,z4,z5⟩:=BS2.six_free
      obtain ⟨m0,m1,m2,m3,m4,m5⟩:=six_of BS2
      have BN:=BS2.setL0 TA TB
      go_wp2_with fail
      refine NoPanic.normal ?_
      go_wp2_with fail
      exact ⟨⟨1,_,rfl,bSet (bSet hb2 (Nat.le_refl _) _) (Nat.le_refl _) _,(E2.far (by show W.heap.size+1≠W.heap.size;omega) _).far (by show W.heap.size+1≠W.heap.size;omega) _,(E4.far (by show W.heap.size+1+1≠W.heap.size;omega) _).far (by show W.heap.size+1+1≠W.heap.size;omega) _,BN,.inr (.inl rfl),HN⟩,by simp [intOf]⟩
    · have hyx:=(HA.out 1).2 (by decide)
      have q1:=fun w=>ref_pw 4 r1 w
      have q2:=fun w=>ref_pw key r1 w
      obtain ⟨P1,hP1⟩:∃ P1,Hid (P1=powV 4 r1):=⟨_,Lib.hid rfl⟩
      obtain ⟨P2,hP2⟩:∃ P2,Hid (P2=powV key r1):=⟨_,Lib.hid rfl⟩
      obtain ⟨YA,hYA⟩:∃ Y,Hid (Y=y.a1):=⟨_,Lib.hid rfl⟩
      obtain ⟨YB,hYB⟩:∃ Y,Hid (Y=y.b1):=⟨_,Lib.hid rfl⟩
      have hya:Hid (YA=x.a1):=Lib.hid (hYA.out.trans hyx.1)
      have hyb:Hid (YB=x.b1):=Lib.hid (hYB.out.trans hyx.2)
      have q3:=fun w=>ref_times YA P1 w (by rw [hya.out];exact HP.out.2.1.1) (by rw [hP1.out];exact powV_inP _ _)
      have q4:=fun w=>ref_times YB P2 w (by rw [hyb.out];exact HP.out.2.1.2) (by rw [hP2.out];exact powV_inP _ _)
      obtain ⟨TA,hTA⟩:∃ T,Hid (T=YA*P1 % 2147483579):=⟨_,Lib.hid rfl⟩
      obtain ⟨TB,hTB⟩:∃ T,Hid (T=YB*P2 % 2147483579):=⟨_,Lib.hid rfl⟩
      rw [←hP1.out] at q1
      rw [←hP2.out] at q2
      rw [←hTA.out] at q3
      rw [←hTB.out] at q4
      have HN:=Lib.hid (AgainAt.next 1 (show (1:Fin 3).val=(1:Int).toNat by rfl) HA.out (a:=TA) (b:=TB) (by rw [hTA.out,hya.out,hP1.out];rfl) (by rw [hTB.out,hyb.out,hP2.out];rfl))
      have KS:Hid (∀ w',Below wr.heap.size wr w'→w'.cell? ⟨W.heap.size,2,none⟩=some (.int .i64 YA)∧w'.cell? ⟨W.heap.size,3,none⟩=some (.int .i64 YB)∧w'.cell? ⟨W.heap.size+1,1,none⟩=some (.int .i64 r1)):=Lib.hid (fun w' h=>⟨by rw [hYA.out];exact (BS.below h BS.lt).cell 2,by rw [hYB.out];exact (BS.below h BS.lt).cell 3,(B2.below h B2.lt).cell 1⟩)
      clear hP1 hP2 hYA hYB hya hyb hTA hTB hyx HA
      go_upto_region 8 with fail
      refine wp_region_schB (f:=22) KS [(0,1),(1,1),(2,1),(3,1),(4,2),(5,1),(6,1),(7,2),(10,1),(11,1),(12,1),(13,2),(14,1),(15,1),(16,1),(17,2),(8,0),(9,0),(18,0),(19,0),(20,1),(21,1),(22,3)] ?_
      simp only [pickS,List.getElem?_cons_zero,List.getElem?_cons_succ]
      refine wpSched_t ?_
      refine wpSched_t ?_
      refine wpSched_t ?_
      refine wpSched_t ?_
      refine wpSched_r ?_
      refine wpSched_t ?_
      refine wpSched_t ?_
      refine wpSched_r ?_
      refine wpSched_t ?_
      refine wpSched_t ?_
      refine wpSched_t ?_
      refine wpSched_r ?_
      refine wpSched_t ?_
      refine wpSched_t ?_
      refine wpSched_t ?_
      refine wpSched_r ?_
      refine wpSched_force (fun K hK=>?_)
      go_simp;(first | (go_at_call 96;(first | (with_reducible refine (q1 _).mono ?_) | (with_reducible refine (q2 _).mono ?_));rintro e w9 ⟨rfl,hw9⟩;subst hw9) | (go_at_call 97;(first | (with_reducible refine (q3 _).mono ?_) | (with_reducible refine (q4 _).mono ?_));rintro e w9 ⟨rfl,hw9⟩;subst hw9) | skip)
      refine shut_go hK KS ?_
      clear hK K
      refine wpSched_force (fun K hK=>?_)
      go_simp;(first | (go_at_call 96;(first | (with_reducible refine (q1 _).mono ?_) | (with_reducible refine (q2 _).mono ?_));rintro e w9 ⟨rfl,hw9⟩;subst hw9) | (go_at_call 97;(first | (with_reducible refine (q3 _).mono ?_) | (with_reducible refine (q4 _).mono ?_));rintro e w9 ⟨rfl,hw9⟩;subst hw9) | skip)
      refine shut_go hK KS ?_
      clear hK K
      refine wpSched_force (fun K hK=>?_)
      go_simp;(first | (go_at_call 96;(first | (with_reducible refine (q1 _).mono ?_) | (with_reducible refine (q2 _).mono ?_));rintro e w9 ⟨rfl,hw9⟩;subst hw9) | (go_at_call 97;(first | (with_reducible refine (q3 _).mono ?_) | (with_reducible refine (q4 _).mono ?_));rintro e w9 ⟨rfl,hw9⟩;subst hw9) | skip)
      refine shut_go hK KS ?_
      clear hK K
      refine wpSched_force (fun K hK=>?_)
      go_simp;(first | (go_at_call 96;(first | (with_reducible refine (q1 _).mono ?_) | (with_reducible refine (q2 _).mono ?_));rintro e w9 ⟨rfl,hw9⟩;subst hw9) | (go_at_call 97;(first | (with_reducible refine (q3 _).mono ?_) | (with_reducible refine (q4 _).mono ?_));rintro e w9 ⟨rfl,hw9⟩;subst hw9) | skip)
      refine shut_go hK KS ?_
      clear hK K
      refine wpSched_t ?_
      refine wpSched_t ?_
      refine wpSched_last ?_
      first | simp only [List.map_nil] | simp only [List.map_cons,List.map_nil]
      have BS2:Blk wr.drew W.heap.size 70 _:=BS.dr
      have E2:Blk wr.drew (W.heap.size+1) 27 _:=B2.dr
      have E4:Blk wr.drew (W.heap.size+1+1) 70 _:=B4.dr
      have hb2:=bDr hb
      clear BS B2 B4 hb q1 q2 q3 q4 KS
      generalize wr.drew=w5 at *
      obtain ⟨z0,z1,z2,z3,z4,z5⟩:=BS2.six_free
      obtain ⟨m0,m1,m2,m3,m4,m5⟩:=six_of BS2
      have BN:=BS2.setL1 TA TB
      go_wp2_with fail
      refine NoPanic.normal ?_
      go_wp2_with fail
      exact ⟨⟨2,_,rfl,bSet (bSet hb2 (Nat.le_refl _) _) (Nat.le_refl _) _,(E2.far (by show W.heap.size+1≠W.heap.size;omega) _).far (by show W.heap.size+1≠W.heap.size;omega) _,(E4.far (by show W.heap.size+1+1≠W.heap.size;omega) _).far (by show W.heap.size+1+1≠W.heap.size;omega) _,BN,.inr (.inr (.inl rfl)),HN⟩,by simp [intOf]⟩
    · have hyx:=(HA.out 2).2 (by decide)
      have q1:=fun w=>ref_pw 4 r2 w
      have q2:=fun w=>ref_pw key r2 w
      obtain ⟨P1,hP1⟩:∃ P1,Hid (P1=powV 4 r2):=⟨_,Lib.hid rfl⟩
      obtain ⟨P2,hP2⟩:∃ P2,Hid (P2=powV key r2):=⟨_,Lib.hid rfl⟩
      obtain ⟨YA,hYA⟩:∃ Y,Hid (Y=y.a2):=⟨_,Lib.hid rfl⟩
      obtain ⟨YB,hYB⟩:∃ Y,Hid (Y=y.b2):=⟨_,Lib.hid rfl⟩
      have hya:Hid (YA=x.a2):=Lib.hid (hYA.out.trans hyx.1)
      have hyb:Hid (YB=x.b2):=Lib.hid (hYB.out.trans hyx.2)
      have q3:=fun w=>ref_times YA P1 w (by rw [hya.out];exact HP.out.2.2.1) (by rw [hP1.out];exact powV_inP _ _)
      have q4:=fun w=>ref_times YB P2 w (by rw [hyb.out];exact HP.out.2.2.2) (by rw [hP2.out];exact powV_inP _ _)
      obtain ⟨TA,hTA⟩:∃ T,Hid (T=YA*P1 % 2147483579):=⟨_,Lib.hid rfl⟩
      obtain ⟨TB,hTB⟩:∃ T,Hid (T=YB*P2 % 2147483579):=⟨_,Lib.hid rfl⟩
      rw [←hP1.out] at q1
      rw [←hP2.out] at q2
      rw [←hTA.out] at q3
      rw [←hTB.out] at q4
      have HN:=Lib.hid (AgainAt.next 2 (show (2:Fin 3).val=(2:Int).toNat by rfl) HA.out (a:=TA) (b:=TB) (by rw [hTA.out,hya.out,hP1.out];rfl) (by rw [hTB.out,hyb.out,hP2.out];rfl))
      have KS:Hid (∀ w',Below wr.heap.size wr w'→w'.cell? ⟨W.heap.size,4,none⟩=some (.int .i64 YA)∧w'.cell? ⟨W.heap.size,5,none⟩=some (.int .i64 YB)∧w'.cell? ⟨W.heap.size+1,2,none⟩=some (.int .i64 r2)):=Lib.hid (fun w' h=>⟨by rw [hYA.out];exact (BS.below h BS.lt).cell 4,by rw [hYB.out];exact (BS.below h BS.lt).cell 5,(B2.below h B2.lt).cell 2⟩)
      clear hP1 hP2 hYA hYB hya hyb hTA hTB hyx HA
      go_upto_region 8 with fail
      refine wp_region_schB (f:=22) KS [(0,1),(1,1),(2,1),(3,1),(4,2),(5,1),(6,1),(7,2),(10,1),(11,1),(12,1),(13,2),(14,1),(15,1),(16,1),(17,2),(8,0),(9,0),(18,0),(19,0),(20,1),(21,1),(22,3)] ?_
      simp only [pickS,List.getElem?_cons_zero,List.getElem?_cons_succ]
      refine wpSched_t ?_
      refine wpSched_t ?_
      refine wpSched_t ?_
      refine wpSched_t ?_
      refine wpSched_r ?_
      refine wpSched_t ?_
      refine wpSched_t ?_
      refine wpSched_r ?_
      refine wpSched_t ?_
      refine wpSched_t ?_
      refine wpSched_t ?_
      refine wpSched_r ?_
      refine wpSched_t ?_
      refine wpSched_t ?_
      refine wpSched_t ?_
      refine wpSched_r ?_
      refine wpSched_force (fun K hK=>?_)
      go_simp;(first | (go_at_call 96;(first | (with_reducible refine (q1 _).mono ?_) | (with_reducible refine (q2 _).mono ?_));rintro e w9 ⟨rfl,hw9⟩;subst hw9) | (go_at_call 97;(first | (with_reducible refine (q3 _).mono ?_) | (with_reducible refine (q4 _).mono ?_));rintro e w9 ⟨rfl,hw9⟩;subst hw9) | skip)
      refine shut_go hK KS ?_
      clear hK K
      refine wpSched_force (fun K hK=>?_)
      go_simp;(first | (go_at_call 96;(first | (with_reducible refine (q1 _).mono ?_) | (with_reducible refine (q2 _).mono ?_));rintro e w9 ⟨rfl,hw9⟩;subst hw9) | (go_at_call 97;(first | (with_reducible refine (q3 _).mono ?_) | (with_reducible refine (q4 _).mono ?_));rintro e w9 ⟨rfl,hw9⟩;subst hw9) | skip)
      refine shut_go hK KS ?_
      clear hK K
      refine wpSched_force (fun K hK=>?_)
      go_simp;(first | (go_at_call 96;(first | (with_reducible refine (q1 _).mono ?_) | (with_reducible refine (q2 _).mono ?_));rintro e w9 ⟨rfl,hw9⟩;subst hw9) | (go_at_call 97;(first | (with_reducible refine (q3 _).mono ?_) | (with_reducible refine (q4 _).mono ?_));rintro e w9 ⟨rfl,hw9⟩;subst hw9) | skip)
      refine shut_go hK KS ?_
      clear hK K
      refine wpSched_force (fun K hK=>?_)
      go_simp;(first | (go_at_call 96;(first | (with_reducible refine (q1 _).mono ?_) | (with_reducible refine (q2 _).mono ?_));rintro e w9 ⟨rfl,hw9⟩;subst hw9) | (go_at_call 97;(first | (with_reducible refine (q3 _).mono ?_) | (with_reducible refine (q4 _).mono ?_));rintro e w9 ⟨rfl,hw9⟩;subst hw9) | skip)
      refine shut_go hK KS ?_
      clear hK K
      refine wpSched_t ?_
      refine wpSched_t ?_
      refine wpSched_last ?_
      first | simp only [List.map_nil] | simp only [List.map_cons,List.map_nil]
      have BS2:Blk wr.drew W.heap.size 70 _:=BS.dr
      have E2:Blk wr.drew (W.heap.size+1) 27 _:=B2.dr
      have E4:Blk wr.drew (W.heap.size+1+1) 70 _:=B4.dr
      have hb2:=bDr hb
      clear BS B2 B4 hb q1 q2 q3 q4 KS
      generalize wr.drew=w5 at *
      obtain ⟨z0,z1,z2,z3,z4,z5⟩:=BS2.six_free
      obtain ⟨m0,m1,m2,m3,m4,m5⟩:=six_of BS2
      have BN:=BS2.setL2 TA TB
      go_wp2_with fail
      refine NoPanic.normal ?_
      go_wp2_with fail
      exact ⟨⟨3,_,rfl,bSet (bSet hb2 (Nat.le_refl _) _) (Nat.le_refl _) _,(E2.far (by show W.heap.size+1≠W.heap.size;omega) _).far (by show W.heap.size+1≠W.heap.size;omega) _,(E4.far (by show W.heap.size+1+1≠W.heap.size;omega) _).far (by show W.heap.size+1+1≠W.heap.size;omega) _,BN,.inr (.inr (.inr rfl)),HN⟩,by simp [intOf]⟩
    · have Hy:=Lib.hid (AgainAt.done HA.out)
      obtain ⟨z0,z1,z2,z3,z4,z5⟩:=B4.six_free
      obtain ⟨m0,m1,m2,m3,m4,m5⟩:=six_of BS
      obtain ⟨u0,u1,u2,u3,u4,u5⟩:=B4.six
      clear BS HA
      have C5:=B4.set6 (.int .i64 y.a0) (.int .i64 y.b0) (.int .i64 y.a1) (.int .i64 y.b1) (.int .i64 y.a2) (.int .i64 y.b2)
      have h5:=bSet6 (b:=W.heap.size+1+1) hb (by omega) (.int .i64 y.a0) (.int .i64 y.b0) (.int .i64 y.a1) (.int .i64 y.b1) (.int .i64 y.a2) (.int .i64 y.b2)
      go_wp2_with fail
      change bodyPost _ _ _ _ _ (set6 wr (W.heap.size+1+1) (.int .i64 y.a0) (.int .i64 y.b0) (.int .i64 y.a1) (.int .i64 y.b1) (.int .i64 y.a2) (.int .i64 y.b2))
      obtain ⟨e0,e1,e2,e3,e4,e5⟩:=C5.six
      exact bodyPost_ret (v := .tuple #[y.agg,.int .i64 0]) (by simp [results,Tryz.results157,go_sem,Ltr.agg,e0,e1,e2,e3,e4,e5]) rfl ⟨ret_li (by rw [Hv.out,Hy.out]) He.out,h5⟩
end Go.Proofs.YtgkpomdegomgiaaGreatDoor

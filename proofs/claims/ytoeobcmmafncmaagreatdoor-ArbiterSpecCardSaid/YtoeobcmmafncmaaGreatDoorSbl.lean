/- The reference's proofs of equality: Check, letters, One, CheckBare; walked. -/
import Derived.Test.YtoeobcmmafncmaaGreatDoorSaz
import Derived.Test.YtoeobcmmafncmaaGreatDoorSam
set_option maxRecDepth 1000000
set_option maxHeartbeats 16000000
namespace Go.Proofs.YtoeobcmmafncmaaGreatDoor
open Go.RowKit
theorem valid_inI {n:Int} (h:validB n=true):inI n:=by
 obtain ⟨h1,h2⟩:=validB_rng h
 exact ⟨by omega,by omega⟩
theorem ref_echeck (key a d E S:Int) (W:World) :
  Calls Tryz.prog 137 #[.int .i64 key,.int .i64 a,.int .i64 d,.agg #[.int .i64 E,.int .i64 S]] W (Ret (.bool (checkB key a d E S)) W):=by
 obtain ⟨v,hv⟩:∃ v,v=checkB key a d E S:=⟨_,rfl⟩
 rw [←hv]
 have BE:=Blk.new W 110 #[.int .i64 E,.int .i64 S] _ rfl
 have hb:=bAl (bRefl W) (.cells #[.int .i64 E,.int .i64 S] 110)
 have q1:=fun w=>ref_eformed key a d E S w
 cases hc:(chk1 key a d&&chk2 E S)
 ·have Hv:Hid (v=false):=by
   show _=_
   rw [hv]
   unfold checkB
   cases h1:chk1 key a d
   ·rfl
   ·rw [h1] at hc
    rw [show chk2 E S=false from by simpa using hc];rfl
  rw [hc] at q1
  clear hv hc
  go_enter Tryz.func137,Tryz.ntmps137
  go_upto_region 1 with fail
  generalize W.alloc (.cells #[.int .i64 E,.int .i64 S] 110)=w1 at *
  obtain ⟨c0,c1⟩:=pair_two BE
  go_wp2_with fail
  (with_reducible refine (q1 _).mono ?_)
  rintro e w2 ⟨rfl,b2⟩
  go_wp2_with fail
  go_ret
  exact ⟨ret_bool Hv.out.symm,bCall hb b2⟩
 ·have h1:chk1 key a d=true:=by simp only [Bool.and_eq_true] at hc;exact hc.1
  have h2:chk2 E S=true:=by simp only [Bool.and_eq_true] at hc;exact hc.2
  have hE:=(ordB_rng h2).1
  obtain ⟨C,hC⟩:∃ C,Hid (C=chalV key a d (rV key E S) (sV a d E S)):=⟨_,Lib.hid rfl⟩
  have Hv:Hid (v=decide (E=(C:Nat))):=by
   show _=_
   rw [hv,hC.out]
   unfold checkB
   rw [h1,h2];rfl
  rw [hc] at q1
  have q2:=fun w=>ref_commits key a d E S w hE
  have i1:inI key:=valid_inI (by unfold chk1 at h1;simp only [Bool.and_eq_true] at h1;exact h1.1.1)
  have i2:inI a:=valid_inI (by unfold chk1 at h1;simp only [Bool.and_eq_true] at h1;exact h1.1.2)
  have i3:inI d:=valid_inI (by unfold chk1 at h1;simp only [Bool.and_eq_true] at h1;exact h1.2)
  have i4:inI (rV key E S):=mulL_in _
  have i5:inI (sV a d E S):=mulL_in _
  generalize rV key E S=R at *
  generalize sV a d E S=T at *
  have hits:∀ x∈[key,a,d,R,T],inI x:=by
   intro x hx
   simp only [List.mem_cons,List.not_mem_nil,or_false] at hx
   rcases hx with rfl | rfl | rfl | rfl | rfl <;> assumption
  have q3:Hid (∀ w:World,Calls Tryz.prog 158 #[.slice (some ⟨w.heap.size,0,none⟩) 5 5] (w.alloc (.cells #[.int .i64 key,.int .i64 a,.int .i64 d,.int .i64 R,.int .i64 T] 3)).drew (RetSl 1 (encN [.int key,.int a,.int d,.int R,.int T]).length (byts (encN [.int key,.int a,.int d,.int R,.int T])) (w.alloc (.cells #[.int .i64 key,.int .i64 a,.int .i64 d,.int .i64 R,.int .i64 T] 3)).drew)):=by
   intro w
   exact ref_text (some ⟨w.heap.size,0,none⟩) 5 5 [key,a,d,R,T] (w.drew.alloc (.cells (ints [key,a,d,R,T]).toArray 3)) (Rd.new w.drew (ints [key,a,d,R,T]) 3 1 5 _ rfl rfl) hits (by omega)
  have hel:=encN_len (l:=[.int key,.int a,.int d,.int R,.int T]) (by
   intro x hx
   simp only [List.mem_cons,List.not_mem_nil,or_false] at hx
   rcases hx with rfl | rfl | rfl | rfl | rfl <;> assumption) (by simp)
  have hoE:=okB_encN [.int key,.int a,.int d,.int R,.int T]
  have hCe:Hid (C=hashV (sb chalS) (encN [.int key,.int a,.int d,.int R,.int T])):=hC
  clear hv hc h1 h2 i1 i2 i3 i4 i5 hits hC
  generalize encN [.int key,.int a,.int d,.int R,.int T]=En at *
  have q4:Hid (∀ (A:Option Addr) (c:Nat) (w:World),Rd w w.heap.size 1 A En.length (byts En)→(A=none→En.length=0∧c=0)→Calls Tryz.prog 142 #[.string ⟨#[101,113,117,97,108]⟩,.slice A En.length c] w (Ret (.int .i64 (C:Nat)) w)):=by
   intro A c w hR hn
   rw [hCe.out]
   exact ref_hash chalS A En.length c En w hR hn hoE (by decide) (Nat.le_trans hel (by decide))
  have hcv:=Hv.out
  clear hel hoE hCe
  go_enter Tryz.func137,Tryz.ntmps137
  go_upto_region 1 with fail
  generalize W.alloc (.cells #[.int .i64 E,.int .i64 S] 110)=w1 at *
  obtain ⟨c0,c1⟩:=pair_two BE
  clear hcv
  go_wp2_with fail
  (with_reducible refine (q1 _).mono ?_)
  rintro e w2 ⟨rfl,b2⟩
  have hb2:=bCall hb b2
  have BE2:=BE.below b2 BE.lt
  clear c0 c1 q1 hb b2 BE
  obtain ⟨c0,c1⟩:=pair_two BE2
  go_wp2_with fail
  (with_reducible refine (q2 _).mono ?_)
  rintro e w3 ⟨rfl,b3⟩
  have hb3:=bCall hb2 b3
  have BE3:=BE2.below b3 BE2.lt
  clear c0 c1 q2 hb2 b3 BE2
  go_upto_region 4 with fail
  have KS:Hid (∀ w',Below w3.heap.size w3 w'→w'.cell? ⟨W.heap.size,0,none⟩=some (.int .i64 E)):=Lib.hid (fun w' h=>(BE3.below h BE3.lt).cell 0)
  refine wp_region_schB (f:=11) KS [(0,1),(1,2),(2,1),(3,1),(4,1),(5,1),(6,1),(7,0),(8,0),(9,0),(10,1),(11,3)] ?_
  simp only [pickS,List.getElem?_cons_zero,List.getElem?_cons_succ]
  refine wpSched_t ?_
  refine wpSched_r ?_
  iterate 5 refine wpSched_t ?_
  refine wpSched_force (fun K hK=>?_)
  go_simp;(first | (go_at_call 158;(with_reducible refine (q3.out _).mono ?_);rintro e w5 ⟨v5,rfl,b5,A5,c5,rfl,hR5,_,_,hn5⟩;have B7:Below w3.heap.size w3 w5:=bCall (by repeat (first | with_reducible exact bRefl _ | with_reducible refine bDr ?_ | with_reducible refine bAl ?_ _)) b5) | (go_at_call 142;(with_reducible refine (q4.out _ _ _ hR5 hn5).mono ?_);rintro e w6 ⟨rfl,b6⟩;have B8:Below w3.heap.size w3 w6:=bCall B7 b6) | skip)
  refine shut_go hK KS ?_
  clear hK K
  refine wpSched_force (fun K hK=>?_)
  go_simp;(first | (go_at_call 158;(with_reducible refine (q3.out _).mono ?_);rintro e w5 ⟨v5,rfl,b5,A5,c5,rfl,hR5,_,_,hn5⟩;have B7:Below w3.heap.size w3 w5:=bCall (by repeat (first | with_reducible exact bRefl _ | with_reducible refine bDr ?_ | with_reducible refine bAl ?_ _)) b5) | (go_at_call 142;(with_reducible refine (q4.out _ _ _ hR5 hn5).mono ?_);rintro e w6 ⟨rfl,b6⟩;have B8:Below w3.heap.size w3 w6:=bCall B7 b6) | skip)
  refine shut_go hK KS ?_
  clear hK K
  refine wpSched_force (fun K hK=>?_)
  go_simp;(first | (go_at_call 158;(with_reducible refine (q3.out _).mono ?_);rintro e w5 ⟨v5,rfl,b5,A5,c5,rfl,hR5,_,_,hn5⟩;have B7:Below w3.heap.size w3 w5:=bCall (by repeat (first | with_reducible exact bRefl _ | with_reducible refine bDr ?_ | with_reducible refine bAl ?_ _)) b5) | (go_at_call 142;(with_reducible refine (q4.out _ _ _ hR5 hn5).mono ?_);rintro e w6 ⟨rfl,b6⟩;have B8:Below w3.heap.size w3 w6:=bCall B7 b6) | skip)
  refine shut_go hK KS ?_
  clear hK K
  refine wpSched_t ?_
  refine wpSched_last ?_
  first | simp only [List.map_nil] | simp only [List.map_cons,List.map_nil]
  go_wp2_with fail
  refine NoPanic.normal ?_
  go_wp2_with fail
  go_ret
  exact ⟨ret_bool (by rw [Hv.out];first | rfl | simp),bCall hb3 B8⟩
theorem ref_letters (A:Option Addr) (n c:Nat) (l:List Ltr) (W:World) (hA:Rd W W.heap.size 6 A n (l.flatMap Ltr.cl)) (hn:n≤9223372036854775807) :
  Calls Tryz.prog 108 #[.slice A n c] W (Ret (.int .i64 (chkL l)) W):=by
 obtain rfl:l.length=n:=Ltrs_length hA
 obtain ⟨v,hv⟩:∃ v,v=chkL l:=⟨_,rfl⟩
 rw [←hv]
 by_cases h64:64<l.length
 ·have Hv:Hid (v=2):=by show _=_;rw [hv];exact if_pos h64
  clear hv
  go_enter Tryz.func108,Tryz.ntmps108
  go_wp2_with fail
  go_ret
  exact ⟨ret_int Hv.out.symm,bRefl _⟩
 have Hv:Hid (v=if l.all Ltr.good=true then 0 else 100):=by show _=_;rw [hv];exact if_neg h64
 clear hv
 go_enter Tryz.func108,Tryz.ntmps108
 go_wp2_with fail
 go_loopw [3] (fun i wr=>∃ k:Nat,k≤l.length∧i = .int .i64 k∧Below W.heap.size W wr∧Hid (∀ y∈l.take k,y.good=true)) (fun i _=>l.length - (intOf i).toNat)
 case atStart=>exact ⟨0,Nat.zero_le _,rfl,bRefl W,Lib.hid (by simp)⟩
 case round =>
  obtain ⟨k,hkn,rfl,hb,hp⟩:=hrel
  by_cases hlt:k<l.length
  ·obtain ⟨x,hx⟩:∃ x,Hid (l[k]?=some x):=⟨_,Lib.hid (List.getElem?_eq_getElem hlt)⟩
   obtain ⟨b,off,hAb,hbb,o0,o1,o2,o3,o4,o5⟩:=Ltr_at (hA.below hb) hlt hx.out
   subst hAb
   have q:=ref_check x wr
   by_cases hg:x.good=true
   ·have he:x.err=0:=if_pos hg
    rw [he] at q
    have hp':Hid (∀ z∈l.take (k+1),z.good=true):=by
     intro z hz
     obtain ⟨hk,rfl⟩:=List.getElem?_eq_some_iff.1 hx.out
     rw [List.take_succ_eq_append_getElem hk] at hz
     rcases List.mem_append.1 hz with hz | hz
     ·exact hp.out z hz
     ·obtain rfl:z=l[k]:=by simpa using hz
      exact hg
    clear he hg
    go_wp2_with fail
    (with_reducible refine q.mono ?_)
    rintro e w' ⟨rfl,b'⟩
    go_wp2_with fail
    exact ⟨⟨k+1,by omega,by go_num,bCall hb b',hp'⟩,by simp [intOf];omega⟩
   ·have he:x.err=100:=if_neg hg
    rw [he] at q
    have hx0:Hid (v=100):=by
     show _=_
     rw [Hv.out,if_neg]
     intro h
     exact hg (List.all_eq_true.1 h x (List.mem_of_getElem? hx.out))
    clear he hg
    go_wp2_with fail
    (with_reducible refine q.mono ?_)
    rintro e w' ⟨rfl,b'⟩
    go_wp2_with fail
    go_ret
    exact ⟨ret_int hx0.out.symm,bCall hb b'⟩
  ·have hx0:Hid (v=0):=by
    show _=_
    rw [Hv.out,if_pos]
    exact List.all_eq_true.2 (by have:=hp.out;rw [List.take_of_length_le (by omega)] at this;exact this)
   go_wp2_with fail
   go_ret
   exact ⟨ret_int hx0.out.symm,hb⟩
theorem ref_one (key:Int) (x y p:Ltr) (W:World) :
  Calls Tryz.prog 109 #[.int .i64 key,.agg #[.int .i64 x.a0,.int .i64 x.b0,.int .i64 x.a1,.int .i64 x.b1,.int .i64 x.a2,.int .i64 x.b2],.agg #[.int .i64 y.a0,.int .i64 y.b0,.int .i64 y.a1,.int .i64 y.b1,.int .i64 y.a2,.int .i64 y.b2],.agg #[.int .i64 p.a0,.int .i64 p.b0,.int .i64 p.a1,.int .i64 p.b1,.int .i64 p.a2,.int .i64 p.b2]] W (Ret (.bool (bareOne key x y p)) W):=by
 obtain ⟨W3,hW3⟩:∃ W3,W3=((W.alloc (.cells x.cells 70)).alloc (.cells y.cells 70)).alloc (.cells p.cells 115):=⟨_,rfl⟩
 have h3:Below W.heap.size W W3:=by rw [hW3];exact bAl (bAl (bAl (bRefl W) _) _) _
 have BX:Blk W3 W.heap.size 70 x.cells:=by rw [hW3];exact ((Blk.new _ _ _ _ rfl).alloc _).alloc _
 have BY:Blk W3 (W.heap.size+1) 70 y.cells:=by rw [hW3];exact (Blk.new _ _ _ _ (by simp)).alloc _
 have BP:Blk W3 (W.heap.size+1+1) 115 p.cells:=by rw [hW3];exact Blk.new _ _ _ _ (by simp)
 obtain ⟨v,hv⟩:∃ v,v=bareOne key x y p:=⟨_,rfl⟩
 rw [←hv]
 have Hv:=Lib.hid hv
 clear hv
 go_enter Tryz.func109,Tryz.ntmps109
 go_upto_region 1 with fail
 change Code.wp _ _ _ _ (((W.alloc (.cells x.cells 70)).alloc (.cells y.cells 70)).alloc (.cells p.cells 115))
 rw [←hW3]
 clear hW3
 go_wp2_with fail
 go_loopw [9] (fun i wr=>∃ k:Int,i = .int .i64 k∧Below W.heap.size W wr∧Blk wr W.heap.size 70 x.cells∧Blk wr (W.heap.size+1) 70 y.cells∧Blk wr (W.heap.size+1+1) 115 p.cells∧(k=0∧Hid True∨k=1∧Hid (bareAt key x y p 0=true)∨k=2∧Hid (bareAt key x y p 0=true∧bareAt key x y p 1=true)∨k=3∧Hid (bareAt key x y p 0=true∧bareAt key x y p 1=true∧bareAt key x y p 2=true))) (fun i _=>3 - (intOf i).toNat)
 case atStart=>exact ⟨0,rfl,h3,BX,BY,BP,.inl ⟨rfl,Lib.hid trivial⟩⟩
 case round =>
  clear h3 BX BY BP
  obtain ⟨k,rfl,hb,BX,BY,BP,(⟨rfl,hq⟩ | ⟨rfl,hq⟩ | ⟨rfl,hq⟩ | ⟨rfl,hq⟩)⟩:=hrel
  ·obtain ⟨XA,hXA⟩:∃ z,Hid (z=x.a0):=⟨_,Lib.hid rfl⟩
   obtain ⟨XB,hXB⟩:∃ z,Hid (z=x.b0):=⟨_,Lib.hid rfl⟩
   obtain ⟨YA,hYA⟩:∃ z,Hid (z=y.a0):=⟨_,Lib.hid rfl⟩
   obtain ⟨YB,hYB⟩:∃ z,Hid (z=y.b0):=⟨_,Lib.hid rfl⟩
   obtain ⟨PA,hPA⟩:∃ z,Hid (z=p.a0):=⟨_,Lib.hid rfl⟩
   obtain ⟨PB,hPB⟩:∃ z,Hid (z=p.b0):=⟨_,Lib.hid rfl⟩
   have KS:Hid (∀ w',Below wr.heap.size wr w'→w'.cell? ⟨W.heap.size,0,none⟩=some (.int .i64 XA)∧w'.cell? ⟨W.heap.size,1,none⟩=some (.int .i64 XB)∧w'.cell? ⟨W.heap.size+1,0,none⟩=some (.int .i64 YA)∧w'.cell? ⟨W.heap.size+1,1,none⟩=some (.int .i64 YB)∧w'.cell? ⟨W.heap.size+1+1,0,none⟩=some (.int .i64 PA)∧w'.cell? ⟨W.heap.size+1+1,1,none⟩=some (.int .i64 PB)):=Lib.hid (fun w' h=>by
    rw [hXA.out,hXB.out,hYA.out,hYB.out,hPA.out,hPB.out]
    exact ⟨(BX.below h BX.lt).cell 0,(BX.below h BX.lt).cell 1,(BY.below h BY.lt).cell 0,(BY.below h BY.lt).cell 1,(BP.below h BP.lt).cell 0,(BP.below h BP.lt).cell 1⟩)
   have hba:Hid (bareAt key x y p 0=(decide (YA=XA)&&checkB key XA (mulV XB (powV YB (-1))) PA PB)):=by
    show _=_
    rw [hXA.out,hXB.out,hYA.out,hYB.out,hPA.out,hPB.out,←mulL_pair];rfl
   have q1:=fun w=>ref_pow YB (-1) w
   have q2:=fun w=>ref_mul XB (powV YB (-1)) w
   have q3:=fun w=>ref_echeck key XA (mulV XB (powV YB (-1))) PA PB w
   generalize powE YB=f1 at *
   generalize mulE XB (powV YB (-1))=f2 at *
   generalize hD:mulV XB (powV YB (-1))=D at *
   generalize powV YB (-1)=Iv at *
   clear hXA hXB hYA hYB hPA hPB hD
   obtain ⟨c0,c1,c2,c3,c4,c5⟩:=KS.out wr (bRefl _)
   by_cases hne:YA=XA
   case neg =>
    have hbad:Hid (v=false):=by
     show _=_
     rw [Hv.out]
     have:bareAt key x y p 0=false:=by rw [hba.out,decide_eq_false hne];rfl
     unfold bareOne
     rw [this];simp
    have g1:(XA != YA)=true:=by rw [bne_iff_ne];exact fun e=>hne e.symm
    clear hne
    go_wp2_with fail
    (with_reducible refine (q1 _).mono ?_)
    rintro e w2 ⟨rfl,rfl⟩
    go_wp2_with fail
    (with_reducible refine (q2 _).mono ?_)
    rintro e w2 ⟨rfl,rfl⟩
    go_upto_region 6 with fail
    go_quiet (fail)
    go_wp2_with fail
    go_ret
    exact ⟨ret_bool hbad.out.symm,bDrN hb nq⟩
   case pos =>
    have g1:(XA != YA)=false:=by rw [hne];simp
    cases hc:checkB key XA D PA PB
    all_goals
     have hbb:bareAt key x y p 0=checkB key XA D PA PB:=by rw [hba.out,decide_eq_true hne];rfl
     rw [hc] at hbb q3
     clear hne hc
    ·have hbad:Hid (v=false):=by
      show _=_
      rw [Hv.out]
      unfold bareOne
      rw [hbb];simp
     clear hbb
     go_wp2_with fail
     (with_reducible refine (q1 _).mono ?_)
     rintro e w2 ⟨rfl,rfl⟩
     go_wp2_with fail
     (with_reducible refine (q2 _).mono ?_)
     rintro e w2 ⟨rfl,rfl⟩
     go_upto_region 6 with fail
     refine wp_region_schB (f:=21) KS [(0,1),(1,1),(2,1),(3,2),(4,1),(5,1),(6,1),(7,2),(8,1),(9,1),(10,1),(11,1),(12,1),(13,1),(14,2),(15,1),(16,1),(17,1),(18,2),(19,0),(20,1),(21,3)] ?_
     simp only [pickS,List.getElem?_cons_zero,List.getElem?_cons_succ]
     iterate 3 refine wpSched_t ?_
     refine wpSched_r ?_
     iterate 3 refine wpSched_t ?_
     refine wpSched_r ?_
     iterate 6 refine wpSched_t ?_
     refine wpSched_r ?_
     iterate 3 refine wpSched_t ?_
     refine wpSched_r ?_
     refine wpSched_force (fun K hK=>?_)
     go_simp;(first | (go_at_call 137;(with_reducible refine (q3 _).mono ?_);rintro e w9 ⟨rfl,b9⟩;have B7:Below wr.heap.size wr w9:=bCall (bDr (bRefl _)) b9) | skip)
     refine shut_go hK KS ?_
     clear hK K
     refine wpSched_t ?_
     refine wpSched_last ?_
     first | simp only [List.map_nil] | simp only [List.map_cons,List.map_nil]
     go_wp2_with fail
     refine NoPanic.normal ?_
     go_wp2_with fail
     go_ret
     exact ⟨ret_bool hbad.out.symm,bCall hb B7⟩
    ·have hok:=hbb
     clear hbb
     have HOK:=Lib.hid hok
     clear hok
     go_wp2_with fail
     (with_reducible refine (q1 _).mono ?_)
     rintro e w2 ⟨rfl,rfl⟩
     go_wp2_with fail
     (with_reducible refine (q2 _).mono ?_)
     rintro e w2 ⟨rfl,rfl⟩
     go_upto_region 6 with fail
     refine wp_region_schB (f:=21) KS [(0,1),(1,1),(2,1),(3,2),(4,1),(5,1),(6,1),(7,2),(8,1),(9,1),(10,1),(11,1),(12,1),(13,1),(14,2),(15,1),(16,1),(17,1),(18,2),(19,0),(20,1),(21,3)] ?_
     simp only [pickS,List.getElem?_cons_zero,List.getElem?_cons_succ]
     iterate 3 refine wpSched_t ?_
     refine wpSched_r ?_
     iterate 3 refine wpSched_t ?_
     refine wpSched_r ?_
     iterate 6 refine wpSched_t ?_
     refine wpSched_r ?_
     iterate 3 refine wpSched_t ?_
     refine wpSched_r ?_
     refine wpSched_force (fun K hK=>?_)
     go_simp;(first | (go_at_call 137;(with_reducible refine (q3 _).mono ?_);rintro e w9 ⟨rfl,b9⟩;have B7:Below wr.heap.size wr w9:=bCall (bDr (bRefl _)) b9) | skip)
     refine shut_go hK KS ?_
     clear hK K
     refine wpSched_t ?_
     refine wpSched_last ?_
     first | simp only [List.map_nil] | simp only [List.map_cons,List.map_nil]
     go_wp2_with fail
     refine NoPanic.normal ?_
     go_wp2_with fail
     have hok:=HOK.out
     exact ⟨⟨1,rfl,bCall hb B7,BX.below B7 BX.lt,BY.below B7 BY.lt,BP.below B7 BP.lt,.inr (.inl ⟨rfl,Lib.hid hok⟩)⟩,by simp [intOf]⟩
  ·obtain ⟨XA,hXA⟩:∃ z,Hid (z=x.a1):=⟨_,Lib.hid rfl⟩
   obtain ⟨XB,hXB⟩:∃ z,Hid (z=x.b1):=⟨_,Lib.hid rfl⟩
   obtain ⟨YA,hYA⟩:∃ z,Hid (z=y.a1):=⟨_,Lib.hid rfl⟩
   obtain ⟨YB,hYB⟩:∃ z,Hid (z=y.b1):=⟨_,Lib.hid rfl⟩
   obtain ⟨PA,hPA⟩:∃ z,Hid (z=p.a1):=⟨_,Lib.hid rfl⟩
   obtain ⟨PB,hPB⟩:∃ z,Hid (z=p.b1):=⟨_,Lib.hid rfl⟩
   have KS:Hid (∀ w',Below wr.heap.size wr w'→w'.cell? ⟨W.heap.size,2,none⟩=some (.int .i64 XA)∧w'.cell? ⟨W.heap.size,3,none⟩=some (.int .i64 XB)∧w'.cell? ⟨W.heap.size+1,2,none⟩=some (.int .i64 YA)∧w'.cell? ⟨W.heap.size+1,3,none⟩=some (.int .i64 YB)∧w'.cell? ⟨W.heap.size+1+1,2,none⟩=some (.int .i64 PA)∧w'.cell? ⟨W.heap.size+1+1,3,none⟩=some (.int .i64 PB)):=Lib.hid (fun w' h=>by
    rw [hXA.out,hXB.out,hYA.out,hYB.out,hPA.out,hPB.out]
    exact ⟨(BX.below h BX.lt).cell 2,(BX.below h BX.lt).cell 3,(BY.below h BY.lt).cell 2,(BY.below h BY.lt).cell 3,(BP.below h BP.lt).cell 2,(BP.below h BP.lt).cell 3⟩)
   have hba:Hid (bareAt key x y p 1=(decide (YA=XA)&&checkB key XA (mulV XB (powV YB (-1))) PA PB)):=by
    show _=_
    rw [hXA.out,hXB.out,hYA.out,hYB.out,hPA.out,hPB.out,←mulL_pair];rfl
   have q1:=fun w=>ref_pow YB (-1) w
   have q2:=fun w=>ref_mul XB (powV YB (-1)) w
   have q3:=fun w=>ref_echeck key XA (mulV XB (powV YB (-1))) PA PB w
   generalize powE YB=f1 at *
   generalize mulE XB (powV YB (-1))=f2 at *
   generalize hD:mulV XB (powV YB (-1))=D at *
   generalize powV YB (-1)=Iv at *
   clear hXA hXB hYA hYB hPA hPB hD
   obtain ⟨c0,c1,c2,c3,c4,c5⟩:=KS.out wr (bRefl _)
   by_cases hne:YA=XA
   case neg =>
    have hbad:Hid (v=false):=by
     show _=_
     rw [Hv.out]
     have:bareAt key x y p 1=false:=by rw [hba.out,decide_eq_false hne];rfl
     unfold bareOne
     rw [this];simp
    have g1:(XA != YA)=true:=by rw [bne_iff_ne];exact fun e=>hne e.symm
    clear hne
    go_wp2_with fail
    (with_reducible refine (q1 _).mono ?_)
    rintro e w2 ⟨rfl,rfl⟩
    go_wp2_with fail
    (with_reducible refine (q2 _).mono ?_)
    rintro e w2 ⟨rfl,rfl⟩
    go_upto_region 6 with fail
    go_quiet (fail)
    go_wp2_with fail
    go_ret
    exact ⟨ret_bool hbad.out.symm,bDrN hb nq⟩
   case pos =>
    have g1:(XA != YA)=false:=by rw [hne];simp
    cases hc:checkB key XA D PA PB
    all_goals
     have hbb:bareAt key x y p 1=checkB key XA D PA PB:=by rw [hba.out,decide_eq_true hne];rfl
     rw [hc] at hbb q3
     clear hne hc
    ·have hbad:Hid (v=false):=by
      show _=_
      rw [Hv.out]
      unfold bareOne
      rw [hbb];simp
     clear hbb
     go_wp2_with fail
     (with_reducible refine (q1 _).mono ?_)
     rintro e w2 ⟨rfl,rfl⟩
     go_wp2_with fail
     (with_reducible refine (q2 _).mono ?_)
     rintro e w2 ⟨rfl,rfl⟩
     go_upto_region 6 with fail
     refine wp_region_schB (f:=21) KS [(0,1),(1,1),(2,1),(3,2),(4,1),(5,1),(6,1),(7,2),(8,1),(9,1),(10,1),(11,1),(12,1),(13,1),(14,2),(15,1),(16,1),(17,1),(18,2),(19,0),(20,1),(21,3)] ?_
     simp only [pickS,List.getElem?_cons_zero,List.getElem?_cons_succ]
     iterate 3 refine wpSched_t ?_
     refine wpSched_r ?_
     iterate 3 refine wpSched_t ?_
     refine wpSched_r ?_
     iterate 6 refine wpSched_t ?_
     refine wpSched_r ?_
     iterate 3 refine wpSched_t ?_
     refine wpSched_r ?_
     refine wpSched_force (fun K hK=>?_)
     go_simp;(first | (go_at_call 137;(with_reducible refine (q3 _).mono ?_);rintro e w9 ⟨rfl,b9⟩;have B7:Below wr.heap.size wr w9:=bCall (bDr (bRefl _)) b9) | skip)
     refine shut_go hK KS ?_
     clear hK K
     refine wpSched_t ?_
     refine wpSched_last ?_
     first | simp only [List.map_nil] | simp only [List.map_cons,List.map_nil]
     go_wp2_with fail
     refine NoPanic.normal ?_
     go_wp2_with fail
     go_ret
     exact ⟨ret_bool hbad.out.symm,bCall hb B7⟩
    ·have hok:=hbb
     clear hbb
     have HOK:=Lib.hid hok
     clear hok
     go_wp2_with fail
     (with_reducible refine (q1 _).mono ?_)
     rintro e w2 ⟨rfl,rfl⟩
     go_wp2_with fail
     (with_reducible refine (q2 _).mono ?_)
     rintro e w2 ⟨rfl,rfl⟩
     go_upto_region 6 with fail
     refine wp_region_schB (f:=21) KS [(0,1),(1,1),(2,1),(3,2),(4,1),(5,1),(6,1),(7,2),(8,1),(9,1),(10,1),(11,1),(12,1),(13,1),(14,2),(15,1),(16,1),(17,1),(18,2),(19,0),(20,1),(21,3)] ?_
     simp only [pickS,List.getElem?_cons_zero,List.getElem?_cons_succ]
     iterate 3 refine wpSched_t ?_
     refine wpSched_r ?_
     iterate 3 refine wpSched_t ?_
     refine wpSched_r ?_
     iterate 6 refine wpSched_t ?_
     refine wpSched_r ?_
     iterate 3 refine wpSched_t ?_
     refine wpSched_r ?_
     refine wpSched_force (fun K hK=>?_)
     go_simp;(first | (go_at_call 137;(with_reducible refine (q3 _).mono ?_);rintro e w9 ⟨rfl,b9⟩;have B7:Below wr.heap.size wr w9:=bCall (bDr (bRefl _)) b9) | skip)
     refine shut_go hK KS ?_
     clear hK K
     refine wpSched_t ?_
     refine wpSched_last ?_
     first | simp only [List.map_nil] | simp only [List.map_cons,List.map_nil]
     go_wp2_with fail
     refine NoPanic.normal ?_
     go_wp2_with fail
     have hok:=HOK.out
     exact ⟨⟨2,rfl,bCall hb B7,BX.below B7 BX.lt,BY.below B7 BY.lt,BP.below B7 BP.lt,.inr (.inr (.inl ⟨rfl,Lib.hid ⟨hq.out,hok⟩⟩))⟩,by simp [intOf]⟩
  ·obtain ⟨XA,hXA⟩:∃ z,Hid (z=x.a2):=⟨_,Lib.hid rfl⟩
   obtain ⟨XB,hXB⟩:∃ z,Hid (z=x.b2):=⟨_,Lib.hid rfl⟩
   obtain ⟨YA,hYA⟩:∃ z,Hid (z=y.a2):=⟨_,Lib.hid rfl⟩
   obtain ⟨YB,hYB⟩:∃ z,Hid (z=y.b2):=⟨_,Lib.hid rfl⟩
   obtain ⟨PA,hPA⟩:∃ z,Hid (z=p.a2):=⟨_,Lib.hid rfl⟩
   obtain ⟨PB,hPB⟩:∃ z,Hid (z=p.b2):=⟨_,Lib.hid rfl⟩
   have KS:Hid (∀ w',Below wr.heap.size wr w'→w'.cell? ⟨W.heap.size,4,none⟩=some (.int .i64 XA)∧w'.cell? ⟨W.heap.size,5,none⟩=some (.int .i64 XB)∧w'.cell? ⟨W.heap.size+1,4,none⟩=some (.int .i64 YA)∧w'.cell? ⟨W.heap.size+1,5,none⟩=some (.int .i64 YB)∧w'.cell? ⟨W.heap.size+1+1,4,none⟩=some (.int .i64 PA)∧w'.cell? ⟨W.heap.size+1+1,5,none⟩=some (.int .i64 PB)):=Lib.hid (fun w' h=>by
    rw [hXA.out,hXB.out,hYA.out,hYB.out,hPA.out,hPB.out]
    exact ⟨(BX.below h BX.lt).cell 4,(BX.below h BX.lt).cell 5,(BY.below h BY.lt).cell 4,(BY.below h BY.lt).cell 5,(BP.below h BP.lt).cell 4,(BP.below h BP.lt).cell 5⟩)
   have hba:Hid (bareAt key x y p 2=(decide (YA=XA)&&checkB key XA (mulV XB (powV YB (-1))) PA PB)):=by
    show _=_
    rw [hXA.out,hXB.out,hYA.out,hYB.out,hPA.out,hPB.out,←mulL_pair];rfl
   have q1:=fun w=>ref_pow YB (-1) w
   have q2:=fun w=>ref_mul XB (powV YB (-1)) w
   have q3:=fun w=>ref_echeck key XA (mulV XB (powV YB (-1))) PA PB w
   generalize powE YB=f1 at *
   generalize mulE XB (powV YB (-1))=f2 at *
   generalize hD:mulV XB (powV YB (-1))=D at *
   generalize powV YB (-1)=Iv at *
   clear hXA hXB hYA hYB hPA hPB hD
   obtain ⟨c0,c1,c2,c3,c4,c5⟩:=KS.out wr (bRefl _)
   by_cases hne:YA=XA
   case neg =>
    have hbad:Hid (v=false):=by
     show _=_
     rw [Hv.out]
     have:bareAt key x y p 2=false:=by rw [hba.out,decide_eq_false hne];rfl
     unfold bareOne
     rw [this];simp
    have g1:(XA != YA)=true:=by rw [bne_iff_ne];exact fun e=>hne e.symm
    clear hne
    go_wp2_with fail
    (with_reducible refine (q1 _).mono ?_)
    rintro e w2 ⟨rfl,rfl⟩
    go_wp2_with fail
    (with_reducible refine (q2 _).mono ?_)
    rintro e w2 ⟨rfl,rfl⟩
    go_upto_region 6 with fail
    go_quiet (fail)
    go_wp2_with fail
    go_ret
    exact ⟨ret_bool hbad.out.symm,bDrN hb nq⟩
   case pos =>
    have g1:(XA != YA)=false:=by rw [hne];simp
    cases hc:checkB key XA D PA PB
    all_goals
     have hbb:bareAt key x y p 2=checkB key XA D PA PB:=by rw [hba.out,decide_eq_true hne];rfl
     rw [hc] at hbb q3
     clear hne hc
    ·have hbad:Hid (v=false):=by
      show _=_
      rw [Hv.out]
      unfold bareOne
      rw [hbb];simp
     clear hbb
     go_wp2_with fail
     (with_reducible refine (q1 _).mono ?_)
     rintro e w2 ⟨rfl,rfl⟩
     go_wp2_with fail
     (with_reducible refine (q2 _).mono ?_)
     rintro e w2 ⟨rfl,rfl⟩
     go_upto_region 6 with fail
     refine wp_region_schB (f:=21) KS [(0,1),(1,1),(2,1),(3,2),(4,1),(5,1),(6,1),(7,2),(8,1),(9,1),(10,1),(11,1),(12,1),(13,1),(14,2),(15,1),(16,1),(17,1),(18,2),(19,0),(20,1),(21,3)] ?_
     simp only [pickS,List.getElem?_cons_zero,List.getElem?_cons_succ]
     iterate 3 refine wpSched_t ?_
     refine wpSched_r ?_
     iterate 3 refine wpSched_t ?_
     refine wpSched_r ?_
     iterate 6 refine wpSched_t ?_
     refine wpSched_r ?_
     iterate 3 refine wpSched_t ?_
     refine wpSched_r ?_
     refine wpSched_force (fun K hK=>?_)
     go_simp;(first | (go_at_call 137;(with_reducible refine (q3 _).mono ?_);rintro e w9 ⟨rfl,b9⟩;have B7:Below wr.heap.size wr w9:=bCall (bDr (bRefl _)) b9) | skip)
     refine shut_go hK KS ?_
     clear hK K
     refine wpSched_t ?_
     refine wpSched_last ?_
     first | simp only [List.map_nil] | simp only [List.map_cons,List.map_nil]
     go_wp2_with fail
     refine NoPanic.normal ?_
     go_wp2_with fail
     go_ret
     exact ⟨ret_bool hbad.out.symm,bCall hb B7⟩
    ·have hok:=hbb
     clear hbb
     have HOK:=Lib.hid hok
     clear hok
     go_wp2_with fail
     (with_reducible refine (q1 _).mono ?_)
     rintro e w2 ⟨rfl,rfl⟩
     go_wp2_with fail
     (with_reducible refine (q2 _).mono ?_)
     rintro e w2 ⟨rfl,rfl⟩
     go_upto_region 6 with fail
     refine wp_region_schB (f:=21) KS [(0,1),(1,1),(2,1),(3,2),(4,1),(5,1),(6,1),(7,2),(8,1),(9,1),(10,1),(11,1),(12,1),(13,1),(14,2),(15,1),(16,1),(17,1),(18,2),(19,0),(20,1),(21,3)] ?_
     simp only [pickS,List.getElem?_cons_zero,List.getElem?_cons_succ]
     iterate 3 refine wpSched_t ?_
     refine wpSched_r ?_
     iterate 3 refine wpSched_t ?_
     refine wpSched_r ?_
     iterate 6 refine wpSched_t ?_
     refine wpSched_r ?_
     iterate 3 refine wpSched_t ?_
     refine wpSched_r ?_
     refine wpSched_force (fun K hK=>?_)
     go_simp;(first | (go_at_call 137;(with_reducible refine (q3 _).mono ?_);rintro e w9 ⟨rfl,b9⟩;have B7:Below wr.heap.size wr w9:=bCall (bDr (bRefl _)) b9) | skip)
     refine shut_go hK KS ?_
     clear hK K
     refine wpSched_t ?_
     refine wpSched_last ?_
     first | simp only [List.map_nil] | simp only [List.map_cons,List.map_nil]
     go_wp2_with fail
     refine NoPanic.normal ?_
     go_wp2_with fail
     have hok:=HOK.out
     exact ⟨⟨3,rfl,bCall hb B7,BX.below B7 BX.lt,BY.below B7 BY.lt,BP.below B7 BP.lt,.inr (.inr (.inr ⟨rfl,Lib.hid ⟨hq.out.1,hq.out.2,hok⟩⟩))⟩,by simp [intOf]⟩
  ·have hx0:Hid (v=true):=by
    show _=_
    rw [Hv.out]
    obtain ⟨h0,h1,h2⟩:=hq.out
    unfold bareOne
    rw [h0,h1,h2];rfl
   go_wp2_with fail
   go_ret
   exact ⟨ret_bool hx0.out.symm,hb⟩
theorem bareAll_iff {key:Int} : ∀ {l m q:List Ltr},l.length=m.length→l.length=q.length→(bareAll key l m q=true↔∀ (i:Nat) (x y p:Ltr),l[i]?=some x→m[i]?=some y→q[i]?=some p→bareOne key x y p=true)
 | [],_,_,_,_=>by unfold bareAll;simp
 | X::l,[],_,h,_=>by simp at h
 | X::l,_::_,[],_,h=>by simp at h
 | X::l,Y::m,Z::q,h1,h2=>by
  have ih:=bareAll_iff (key:=key) (l:=l) (m:=m) (q:=q) (by simpa using h1) (by simpa using h2)
  unfold bareAll
  rw [Bool.and_eq_true,ih]
  constructor
  ·rintro ⟨h0,h⟩ i x y p hx hy hp
   cases i with
   | zero =>
    simp only [List.getElem?_cons_zero,Option.some.injEq] at hx hy hp
    subst hx;subst hy;subst hp
    exact h0
   | succ i=>exact h i x y p (by simpa using hx) (by simpa using hy) (by simpa using hp)
  ·intro h
   exact ⟨h 0 X Y Z rfl rfl rfl,fun i x y p hx hy hp=>h (i+1) x y p (by simpa using hx) (by simpa using hy) (by simpa using hp)⟩
def SixAt (w:World) (b o:Nat) (x:Ltr):Prop:=w.cell? ⟨b,o,none⟩=some (.int .i64 x.a0)∧w.cell? ⟨b,o+1,none⟩=some (.int .i64 x.b0)∧w.cell? ⟨b,o+2,none⟩=some (.int .i64 x.a1)∧w.cell? ⟨b,o+3,none⟩=some (.int .i64 x.b1)∧w.cell? ⟨b,o+4,none⟩=some (.int .i64 x.a2)∧w.cell? ⟨b,o+5,none⟩=some (.int .i64 x.b2)
theorem SixAt.of {w:World} {B n k:Nat} {A:Option Addr} {l:List Ltr} {x:Ltr} (h:Rd w B 6 A n (l.flatMap Ltr.cl)) (hn:k<n) (hx:l[k]?=some x):∃ b off,A=some ⟨b,off,none⟩∧b<B∧SixAt w b (off+k*6) x:=Ltr_at h hn hx
theorem SixAt.below {w w':World} {B b o:Nat} {x:Ltr} (h:SixAt w b o x) (hb:b<B) (k:Below B w w'):SixAt w' b o x:=by
 obtain ⟨h0,h1,h2,h3,h4,h5⟩:=h
 exact ⟨(k.cell (p:=⟨b,o,none⟩) hb).trans h0,(k.cell (p:=⟨b,o+1,none⟩) hb).trans h1,(k.cell (p:=⟨b,o+2,none⟩) hb).trans h2,(k.cell (p:=⟨b,o+3,none⟩) hb).trans h3,(k.cell (p:=⟨b,o+4,none⟩) hb).trans h4,(k.cell (p:=⟨b,o+5,none⟩) hb).trans h5⟩
theorem ref_checkBare (key:Int) (A B C:Option Addr) (n m q ca cb cc:Nat) (l x p:List Ltr) (W:World) (hA:Rd W W.heap.size 6 A n (l.flatMap Ltr.cl)) (hB:Rd W W.heap.size 6 B m (x.flatMap Ltr.cl)) (hC:Rd W W.heap.size 6 C q (p.flatMap Ltr.cl))
  (hn:n≤9223372036854775807) (hm:m≤9223372036854775807) (hq:q≤9223372036854775807) :
  Calls Tryz.prog 69 #[.int .i64 key,.slice A n ca,.slice B m cb,.slice C q cc] W (Ret (.bool (checkBareB key l x p)) W):=by
 obtain rfl:l.length=n:=Ltrs_length hA
 obtain rfl:x.length=m:=Ltrs_length hB
 obtain rfl:p.length=q:=Ltrs_length hC
 obtain ⟨v,hv⟩:∃ v,v=checkBareB key l x p:=⟨_,rfl⟩
 rw [←hv]
 unfold checkBareB at hv
 have q1:=ref_valid key W
 cases h1:validB key
 ·have Hv:Hid (v=false):=by show _=_;rw [hv,h1];rfl
  rw [h1] at q1
  clear hv h1
  go_enter Tryz.func69,Tryz.ntmps69
  go_wp2_with fail
  (with_reducible refine q1.mono ?_)
  rintro e w4 ⟨rfl,rfl⟩
  go_wp2_with fail
  go_ret
  exact ⟨ret_bool Hv.out.symm,bRefl _⟩
 rw [h1] at q1 hv
 clear h1
 by_cases h2:l.length=x.length
 case neg =>
  have Hv:Hid (v=false):=by show _=_;rw [hv,decide_eq_false h2];rfl
  have g2:((l.length:Int) != (x.length:Int))=true:=by rw [bne_iff_ne];omega
  clear hv h2
  go_enter Tryz.func69,Tryz.ntmps69
  go_wp2_with fail
  (with_reducible refine q1.mono ?_)
  rintro e w4 ⟨rfl,rfl⟩
  go_wp2_with fail
  go_ret
  exact ⟨ret_bool Hv.out.symm,bRefl _⟩
 have g2:((l.length:Int) != (x.length:Int))=false:=by rw [bne_eq_false_iff_eq];omega
 by_cases h3:l.length=p.length
 case neg =>
  have Hv:Hid (v=false):=by show _=_;rw [hv,decide_eq_false h3];simp
  have g3:((l.length:Int) != (p.length:Int))=true:=by rw [bne_iff_ne];omega
  have H2:=Lib.hid h2
  clear hv h2 h3
  go_enter Tryz.func69,Tryz.ntmps69
  go_wp2_with fail
  (with_reducible refine q1.mono ?_)
  rintro e w4 ⟨rfl,rfl⟩
  go_wp2_with fail
  go_ret
  exact ⟨ret_bool Hv.out.symm,bRefl _⟩
 have g3:((l.length:Int) != (p.length:Int))=false:=by rw [bne_eq_false_iff_eq];omega
 have H2:=Lib.hid h2
 have H3:=Lib.hid h3
 rw [decide_eq_true h2,decide_eq_true h3] at hv
 have q4:=ref_letters A l.length ca l W hA hn
 have hxm:x.length≤9223372036854775807:=hm
 clear h2 h3
 by_cases h4:chkL l=0
 case neg =>
  have Hv:Hid (v=false):=by show _=_;rw [hv,decide_eq_false h4];simp
  have g4:(chkL l != 0)=true:=by rw [bne_iff_ne];exact h4
  generalize chkL l=E1 at *
  clear hv h4
  go_enter Tryz.func69,Tryz.ntmps69
  go_wp2_with fail
  (with_reducible refine q1.mono ?_)
  rintro e w4 ⟨rfl,rfl⟩
  go_wp2_with fail
  (with_reducible refine q4.mono ?_)
  rintro e w5 ⟨rfl,b5⟩
  go_wp2_with fail
  go_ret
  exact ⟨ret_bool Hv.out.symm,b5⟩
 rw [decide_eq_true h4] at hv
 rw [h4] at q4
 clear h4
 have q5:=fun w (h:Below W.heap.size W w)=>ref_letters B x.length cb x w ((hB.below h).more h.size) hm
 by_cases h5:chkL x=0
 case neg =>
  have Hv:Hid (v=false):=by show _=_;rw [hv,decide_eq_false h5];simp
  have g5:(chkL x != 0)=true:=by rw [bne_iff_ne];exact h5
  generalize chkL x=E2 at *
  clear hv h5
  go_enter Tryz.func69,Tryz.ntmps69
  go_wp2_with fail
  (with_reducible refine q1.mono ?_)
  rintro e w4 ⟨rfl,rfl⟩
  go_wp2_with fail
  (with_reducible refine q4.mono ?_)
  rintro e w5 ⟨rfl,b5⟩
  go_wp2_with fail
  (with_reducible refine (q5 _ b5).mono ?_)
  rintro e w6 ⟨rfl,b6⟩
  go_wp2_with fail
  go_ret
  exact ⟨ret_bool Hv.out.symm,bCall b5 b6⟩
 rw [decide_eq_true h5] at hv
 rw [h5] at q5
 clear h5
 have Hv:Hid (v=bareAll key l x p):=by show _=_;rw [hv];rfl
 clear hv
 go_enter Tryz.func69,Tryz.ntmps69
 go_wp2_with fail
 (with_reducible refine q1.mono ?_)
 rintro e w4 ⟨rfl,rfl⟩
 go_wp2_with fail
 (with_reducible refine q4.mono ?_)
 rintro e w5 ⟨rfl,b5⟩
 go_wp2_with fail
 (with_reducible refine (q5 _ b5).mono ?_)
 rintro e w6 ⟨rfl,b6⟩
 have hb6:=bCall b5 b6
 clear q1 q4 q5 b5 b6
 go_wp2_with fail
 go_loopw [9] (fun i wr=>∃ k:Nat,k≤l.length∧i = .int .i64 k∧Below W.heap.size W wr∧Hid (∀ i X Y Z,i<k→l[i]?=some X→x[i]?=some Y→p[i]?=some Z→bareOne key X Y Z=true)) (fun i _=>l.length - (intOf i).toNat)
 case atStart=>exact ⟨0,Nat.zero_le _,rfl,hb6,Lib.hid (fun i X Y Z h=>by omega)⟩
 case round =>
  clear hb6
  obtain ⟨k,hk,rfl,hb,hp⟩:=hrel
  by_cases hlt:k<l.length
  ·have hkx:k<x.length:=by have:=H2.out;omega
   have hkp:k<p.length:=by have:=H3.out;omega
   obtain ⟨X,hX⟩:∃ X,Hid (l[k]?=some X):=⟨_,Lib.hid (List.getElem?_eq_getElem hlt)⟩
   obtain ⟨Y,hY⟩:∃ X,Hid (x[k]?=some X):=⟨_,Lib.hid (List.getElem?_eq_getElem hkx)⟩
   obtain ⟨Z,hZ⟩:∃ X,Hid (p[k]?=some X):=⟨_,Lib.hid (List.getElem?_eq_getElem hkp)⟩
   obtain ⟨ba,oa,eA,hba,sa⟩:=SixAt.of (hA.below hb) hlt hX.out
   obtain ⟨bb,ob,eB,hbb,sb⟩:=SixAt.of (hB.below hb) hkx hY.out
   obtain ⟨bc,oc,eC,hbc,sc⟩:=SixAt.of (hC.below hb) hkp hZ.out
   subst eA;subst eB;subst eC
   have hws:=hb.size
   have KS:Hid (∀ w',Below wr.heap.size wr w'→(w'.cell? ⟨ba,oa+k*6,none⟩=some (.int .i64 X.a0)∧w'.cell? ⟨ba,oa+k*6+1,none⟩=some (.int .i64 X.b0)∧w'.cell? ⟨ba,oa+k*6+2,none⟩=some (.int .i64 X.a1)∧w'.cell? ⟨ba,oa+k*6+3,none⟩=some (.int .i64 X.b1)∧w'.cell? ⟨ba,oa+k*6+4,none⟩=some (.int .i64 X.a2)∧w'.cell? ⟨ba,oa+k*6+5,none⟩=some (.int .i64 X.b2))∧(w'.cell? ⟨bb,ob+k*6,none⟩=some (.int .i64 Y.a0)∧w'.cell? ⟨bb,ob+k*6+1,none⟩=some (.int .i64 Y.b0)∧w'.cell? ⟨bb,ob+k*6+2,none⟩=some (.int .i64 Y.a1)∧w'.cell? ⟨bb,ob+k*6+3,none⟩=some (.int .i64 Y.b1)∧w'.cell? ⟨bb,ob+k*6+4,none⟩=some (.int .i64 Y.a2)∧w'.cell? ⟨bb,ob+k*6+5,none⟩=some (.int .i64 Y.b2))∧w'.cell? ⟨bc,oc+k*6,none⟩=some (.int .i64 Z.a0)∧w'.cell? ⟨bc,oc+k*6+1,none⟩=some (.int .i64 Z.b0)∧w'.cell? ⟨bc,oc+k*6+2,none⟩=some (.int .i64 Z.a1)∧w'.cell? ⟨bc,oc+k*6+3,none⟩=some (.int .i64 Z.b1)∧w'.cell? ⟨bc,oc+k*6+4,none⟩=some (.int .i64 Z.a2)∧w'.cell? ⟨bc,oc+k*6+5,none⟩=some (.int .i64 Z.b2)):=Lib.hid (fun w' h=>⟨SixAt.below sa (by omega) h,SixAt.below sb (by omega) h,SixAt.below sc (by omega) h⟩)
   have i0:(0:Int)≤(k:Int):=by omega
   have i1:(k:Int)<(l.length:Int):=by omega
   have i2:(k:Int)<(x.length:Int):=by omega
   have i3:(k:Int)<(p.length:Int):=by omega
   have q3:=fun w=>ref_one key X Y Z w
   cases hc:bareOne key X Y Z
   all_goals rw [hc] at q3
   ·have hbad:Hid (v=false):=by
     show _=_
     rw [Hv.out,←Bool.not_eq_true]
     intro h
     have:=(bareAll_iff H2.out H3.out).1 h k X Y Z hX.out hY.out hZ.out
     rw [hc] at this;cases this
    clear hc sa sb sc
    go_wp2_with fail
    go_upto_region 6 with fail
    refine wp_region_schB (f:=14) KS [(0,1),(1,1),(2,1),(3,1),(4,2),(5,1),(6,1),(7,1),(8,2),(9,1),(10,1),(11,1),(12,2),(13,0),(14,3)] ?_
    simp only [pickS,List.getElem?_cons_zero,List.getElem?_cons_succ]
    iterate 4 refine wpSched_t ?_
    refine wpSched_r ?_
    iterate 3 refine wpSched_t ?_
    refine wpSched_r ?_
    iterate 3 refine wpSched_t ?_
    refine wpSched_r ?_
    refine wpSched_force (fun K hK=>?_)
    go_simp;(first | (go_at_call 109;(with_reducible refine (q3 _).mono ?_);rintro e w9 ⟨rfl,b9⟩;have B7:Below wr.heap.size wr w9:=bCall (bDr (bRefl _)) b9) | skip)
    refine shut_go hK KS ?_
    clear hK K
    refine wpSched_last ?_
    first | simp only [List.map_nil] | simp only [List.map_cons,List.map_nil]
    go_wp2_with fail
    refine NoPanic.normal ?_
    go_wp2_with fail
    go_ret
    exact ⟨ret_bool hbad.out.symm,bCall hb B7⟩
   ·have hp':Hid (∀ i X Y Z,i<k+1→l[i]?=some X→x[i]?=some Y→p[i]?=some Z→bareOne key X Y Z=true):=by
     intro i X' Y' Z' hi h1 h2 h3
     by_cases hik:i<k
     ·exact hp.out i X' Y' Z' hik h1 h2 h3
     ·obtain rfl:i=k:=by omega
      have e1:=Option.some.inj (h1.symm.trans hX.out)
      have e2:=Option.some.inj (h2.symm.trans hY.out)
      have e3:=Option.some.inj (h3.symm.trans hZ.out)
      rw [e1,e2,e3];exact hc
    clear hc sa sb sc
    go_wp2_with fail
    go_upto_region 6 with fail
    refine wp_region_schB (f:=14) KS [(0,1),(1,1),(2,1),(3,1),(4,2),(5,1),(6,1),(7,1),(8,2),(9,1),(10,1),(11,1),(12,2),(13,0),(14,3)] ?_
    simp only [pickS,List.getElem?_cons_zero,List.getElem?_cons_succ]
    iterate 4 refine wpSched_t ?_
    refine wpSched_r ?_
    iterate 3 refine wpSched_t ?_
    refine wpSched_r ?_
    iterate 3 refine wpSched_t ?_
    refine wpSched_r ?_
    refine wpSched_force (fun K hK=>?_)
    go_simp;(first | (go_at_call 109;(with_reducible refine (q3 _).mono ?_);rintro e w9 ⟨rfl,b9⟩;have B7:Below wr.heap.size wr w9:=bCall (bDr (bRefl _)) b9) | skip)
    refine shut_go hK KS ?_
    clear hK K
    refine wpSched_last ?_
    first | simp only [List.map_nil] | simp only [List.map_cons,List.map_nil]
    go_wp2_with fail
    refine NoPanic.normal ?_
    go_wp2_with fail
    exact ⟨⟨k+1,by omega,by go_num,bCall hb B7,hp'⟩,by simp [intOf];omega⟩
  ·have hx0:Hid (v=true):=by
    show _=_
    rw [Hv.out]
    exact (bareAll_iff H2.out H3.out).2 (fun i X Y Z h1 h2 h3=>hp.out i X Y Z (by have:=(List.getElem?_eq_some_iff.1 h1).1;omega) h1 h2 h3)
   go_wp2_with fail
   go_ret
   exact ⟨ret_bool hx0.out.symm,hb⟩
def RetRestR (l:List Int) (w:World) (r:Ending) (w':World):Prop :=
 Below w.heap.size w w'∧∃ g,r = .returned (.tuple #[.slice (some ⟨g,0,none⟩) (l.length+1) (l.length+1),.int .i64 0])∧w.heap.size≤g∧Blk w' g 3 (ints (restL l)).toArray
theorem ref_rest (A:Option Addr) (n c:Nat) (l:List Int) (W:World) (hA:Rd W W.heap.size 1 A n (ints l)) (hn:n≤24) (hv:∀ k∈l,validB k=true) :
  Calls Tryz.prog 37 #[.slice A n c] W (RetRestR l W):=by
 obtain rfl:l.length=n:=by have:=hA.1;rw [ints_length,Nat.mul_one] at this;exact this
 have hmk:=make_ints l.length (by omega)
 go_enter Tryz.func37,Tryz.ntmps37
 go_wp2_with fail
 go_loop [4] (fun i=>∃ k:Nat,k≤l.length∧i = .int .i64 k) (fun i=>l.length - (intOf i).toNat)
 case atStart=>exact ⟨0,Nat.zero_le _,rfl⟩
 case round =>
  obtain ⟨k,hk,rfl⟩:=hrel
  by_cases hlt:k<l.length
  ·obtain ⟨x,hx⟩:∃ x,Hid (l[k]?=some x):=⟨_,Lib.hid (List.getElem?_eq_getElem hlt)⟩
   obtain ⟨b,off,rfl,hbb,d0⟩:=Int_at hA hlt hx.out
   have q:=ref_valid x W
   rw [hv x (List.mem_of_getElem? hx.out)] at q
   clear hmk
   go_wp2_with fail
   (with_reducible refine q.mono ?_)
   rintro e w2 ⟨rfl,rfl⟩
   go_wp2_with fail
   exact ⟨⟨k+1,by omega,by go_num⟩,by simp [intOf];omega⟩
  ·clear hk
   go_upto_region 9 with fail
   have BG:=Blk.new W 3 (ints (List.replicate (l.length+1) 0)).toArray _ rfl
   have hb:=bAl (bRefl W) (.cells (ints (List.replicate (l.length+1) 0)).toArray 3)
   clear hmk
   generalize W.alloc (.cells (ints (List.replicate (l.length+1) 0)).toArray 3)=w1 at *
   have c0:w1.cell? ⟨W.heap.size,l.length,none⟩=some (.int .i64 0):=by
    rw [BG.cell]
    simp [ints]
   have z0:=BG.frozen l.length
   have BG1:=BG.set_ l.length (.int .i64 1)
   rw [ints_set,rest_first] at BG1
   have hb1:=bSet hb (p:=⟨W.heap.size,l.length,none⟩) (Nat.le_refl _) (.int .i64 1)
   have i1:(l.length:Int)<(l.length:Int)+1:=by omega
   clear BG hb
   go_upto_region 10 with fail
   clear c0 z0
   generalize w1.setCell ⟨W.heap.size,l.length,none⟩ (.int .i64 1)=w2 at *
   go_wp2_with fail
   go_loopw [6] (fun i wr=>∃ y:Int,-1≤y∧y<l.length∧i = .int .i64 y∧Below W.heap.size W wr∧Blk wr W.heap.size 3 (ints (List.replicate (y+1).toNat 0++restL (l.drop (y+1).toNat))).toArray) (fun i _=>(intOf i+1).toNat)
   case atStart=>exact ⟨(l.length:Int) - 1,by omega,by omega,rfl,hb1,by rw [show ((l.length:Int) - 1+1).toNat=l.length by omega];exact BG1⟩
   case round =>
    clear hb1 BG1 i1
    obtain ⟨y,hy0,hyn,rfl,hb,BG⟩:=hrel
    by_cases hpos:0≤y
    ·obtain ⟨m,rfl⟩:∃ m:Nat,y=(m:Int):=⟨y.toNat,by omega⟩
     have hml:m<l.length:=by omega
     have e1:((m:Int)+1).toNat=m+1:=by omega
     rw [e1] at BG
     obtain ⟨x,hx⟩:∃ x,Hid (l[m]?=some x):=⟨_,Lib.hid (List.getElem?_eq_getElem hml)⟩
     obtain ⟨b,off,rfl,hbb,d0⟩:=Int_at (hA.below hb) hml hx.out
     obtain ⟨H,hH1,hH2⟩:=restL_head (l:=l.drop (m+1))
     have hvx:=hv x (List.mem_of_getElem? hx.out)
     have hvH:validB H=true:=restL_valid (l:=l.drop (m+1)) (fun k hk=>hv k (List.mem_of_mem_drop hk)) H (List.mem_of_getElem? hH1)
     have r1:=validB_rng hvx
     have r2:=validB_rng hvH
     have hm:=mul_rng (a:=H) (b:=x) (by omega) (by omega) (by omega) (by omega)
     have hw:IntKind.i64.wrap (H*x)=H*x:=by rw [IntKind.wrap_i64];omega
     have ht:(H*x).tmod 2147483579=H*x % 2147483579:=Int.tmod_eq_emod_of_nonneg hm.1
     have hw2:IntKind.i64.wrap (H*x % 2147483579)=H*x % 2147483579:=by rw [IntKind.wrap_i64];omega
     have hnew:Hid (H*x % 2147483579=mulV x H):=by show _=_;rw [mulV_eq hvx hvH,Int.mul_comm]
     have ce:wr.cell? ⟨W.heap.size,m+1,none⟩=some (.int .i64 H):=by
      rw [BG.cell]
      simp only [List.getElem?_toArray]
      refine ints_at ?_
      rw [List.getElem?_append_right (by simp),List.length_replicate,Nat.sub_self]
      exact hH1
     have KS:Hid (∀ w',Below wr.heap.size wr w'→w'.cell? ⟨W.heap.size,m+1,none⟩=some (.int .i64 H)∧w'.cell? ⟨b,off+m,none⟩=some (.int .i64 x)):=Lib.hid (fun w' h=>⟨(h.cell (p:=⟨W.heap.size,m+1,none⟩) BG.lt).trans ce,(h.cell (p:=⟨b,off+m,none⟩) (Nat.lt_of_lt_of_le hbb hb.size)).trans d0⟩)
     have f1:IntKind.i64.wrap ((m:Int)+1)=(m:Int)+1:=by rw [IntKind.wrap_i64];omega
     have f2:(0:Int)≤(m:Int)+1:=by omega
     have f3:(m:Int)+1<(l.length:Int)+1:=by omega
     have f4:(m:Int)<(l.length:Int)+1:=by omega
     have f5:(0:Int)≤(m:Int):=by omega
     have f6:(m:Int)<(l.length:Int):=by omega
     obtain ⟨u0,hu0⟩:∃ u,wr.cell? ⟨W.heap.size,m,none⟩=some u:=⟨_,(BG.cell m).trans (Array.getElem?_eq_getElem (by simp [ints];omega))⟩
     have hset:Hid ((ints (List.replicate (m+1) 0++restL (l.drop (m+1)))).toArray.setIfInBounds m (.int .i64 (mulV x H))=(ints (List.replicate m 0++restL (l.drop m))).toArray):=by
      show _=_
      rw [ints_set]
      have:=rest_set hml
      have hxe:l[m]=x:=by obtain ⟨_,h⟩:=List.getElem?_eq_some_iff.1 hx.out;exact h
      rw [hxe,←hH2] at this
      rw [this]
     clear hH1 hH2 d0 ce hpos hy0 hvx hvH
     go_upto_region 13 with fail
     refine wp_region_schB (f:=14) KS [(0,1),(1,1),(2,1),(3,1),(4,1),(5,1),(6,2),(7,1),(8,1),(9,1),(10,2),(11,1),(12,1),(13,1),(14,3)] ?_
     simp only [pickS,List.getElem?_cons_zero,List.getElem?_cons_succ]
     iterate 6 refine wpSched_t ?_
     refine wpSched_r ?_
     iterate 3 refine wpSched_t ?_
     refine wpSched_r ?_
     iterate 3 refine wpSched_t ?_
     refine wpSched_last ?_
     first | simp only [List.map_nil] | simp only [List.map_cons,List.map_nil]
     have BG2:Blk wr.drew W.heap.size 3 _:=BG.dr
     have hb2:=bDr hb
     have c9:wr.drew.cell? ⟨W.heap.size,m,none⟩=some u0:=hu0
     have z9:=BG2.frozen m
     clear KS BG hb hu0
     generalize wr.drew=w5 at *
     have BN:=BG2.set_ m (.int .i64 (mulV x H))
     rw [hset.out] at BN
     rw [hnew.out]
     clear hw ht hw2 f1
     go_wp2_with fail
     refine NoPanic.normal ?_
     go_wp2_with fail
     exact ⟨⟨(m:Int) - 1,by omega,by omega,rfl,bSet hb2 (Nat.le_refl _) _,by rw [show ((m:Int) - 1+1).toNat=m by omega];exact BN⟩,by simp [intOf]⟩
    ·have hy:y = -1:=by omega
     rw [hy] at BG
     have BG2:Blk wr W.heap.size 3 (ints (restL l)).toArray:=by
      simpa using BG
     clear hy BG
     go_wp2_with fail
     go_ret2
     exact ⟨hb,W.heap.size,rfl,Nat.le_refl _,BG2⟩
end Go.Proofs.YtoeobcmmafncmaaGreatDoor

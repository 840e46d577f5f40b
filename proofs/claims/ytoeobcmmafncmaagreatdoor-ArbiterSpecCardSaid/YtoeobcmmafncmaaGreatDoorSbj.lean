/- The reference of handover: time, Formed, Letter; walked. -/
import Derived.Test.YtoeobcmmafncmaaGreatDoorSbg
import Derived.Test.YtoeobcmmafncmaaGreatDoorSax
import Derived.Test.YtoeobcmmafncmaaGreatDoorSat
import Derived.Test.YtoeobcmmafncmaaGreatDoorSbf
import Derived.Test.YtoeobcmmafncmaaGreatDoorSay
import Derived.Test.YtoeobcmmafncmaaGreatDoorSas
set_option maxRecDepth 1000000
set_option maxHeartbeats 16000000
namespace Go.Proofs.YtoeobcmmafncmaaGreatDoor
open Go.RowKit
theorem ref_time48 (n:Int) (W:World):Calls Tryz.prog 112 #[.int .i64 n] W (Same (.bool (tmB n)) W):=by
 obtain ⟨v,hv⟩:∃ v,Hid (v=tmB n):=⟨_,Lib.hid rfl⟩
 rw [←hv.out]
 by_cases h1:0≤n
 ·by_cases h2 : n < 2097152
  ·have e:Hid (v=true):=Lib.hid (by rw [hv.out];unfold tmB;rw [decide_eq_true h1,decide_eq_true h2];rfl)
   go_enter Tryz.func112,Tryz.ntmps112
   go_wp2_with fail
   go_ret
   exact ⟨ret_bool (by rw [e.out]),rfl⟩
  ·have e:Hid (v=false):=Lib.hid (by rw [hv.out];unfold tmB;rw [decide_eq_false h2,Bool.and_false])
   go_enter Tryz.func112,Tryz.ntmps112
   go_wp2_with fail
   go_ret
   exact ⟨ret_bool (by rw [e.out]),rfl⟩
 ·have e:Hid (v=false):=Lib.hid (by rw [hv.out];unfold tmB;rw [decide_eq_false h1,Bool.false_and])
  go_enter Tryz.func112,Tryz.ntmps112
  go_wp2_with fail
  go_ret
  exact ⟨ret_bool (by rw [e.out]),rfl⟩
def Hd.runB (h:Hd):Bool:=decide (0≤h.line)&&(decide (h.line<64)&&(tmB h.at_&&tmB h.arrive))
def Hd.offB (h:Hd):Bool:=decide (0≤h.from_)&&(decide (h.from_<24)&&(decide (-1≤h.to_)&&(decide (h.to_<24)&&decide (h.from_≠h.to_))))
def Hd.endB (h:Hd):Bool:=decide (0≤h.leg)&&(decide (h.leg≤8)&&(decide (0≤h.many)&&(decide (h.many≤64)&&tmB h.time)))
theorem Hd.formed_eq (h:Hd):h.formed=(h.runB&&(h.offB&&h.endB)):=by
 unfold Hd.formed Hd.runB Hd.offB Hd.endB
 simp only [Bool.decide_and]
 cases tmB h.at_ <;> cases tmB h.arrive <;> cases tmB h.time <;> simp [Bool.and_assoc,Bool.and_comm,Bool.and_left_comm]
theorem ref_formed48 (h:Hd) (ho:h.ok) (W:World):Calls Tryz.prog 75 #[.agg h.cl.toArray] W (Ret (.bool h.formed) W):=by
 obtain ⟨cs,hcs⟩:∃ cs,h.cl.toArray=cs:=⟨_,rfl⟩
 rw [hcs,Hd.formed_eq]
 have BH:=Blk.new W 53 cs _ rfl
 have hb:=bAl (bRefl W) (.cells cs 53)
 obtain ⟨c0,c1,c2,c3,c4,c5,c6,c39,c40,c41⟩:=HdAt.of BH hcs.symm ho
 have q1:=Lib.hid (fun w=>ref_time48 h.at_ w)
 have q2:=Lib.hid (fun w=>ref_time48 h.arrive w)
 have q3:=Lib.hid (fun w=>ref_time48 h.time w)
 obtain ⟨R,hR⟩:∃ R,Hid (R=h.runB):=⟨_,Lib.hid rfl⟩
 obtain ⟨O,hO⟩:∃ O,Hid (O=h.offB):=⟨_,Lib.hid rfl⟩
 obtain ⟨E,hE⟩:∃ E,Hid (E=h.endB):=⟨_,Lib.hid rfl⟩
 rw [←hR.out,←hO.out,←hE.out]
 go_enter Tryz.func75,Tryz.ntmps75
 go_upto_region 1 with fail
 generalize W.alloc (.cells cs 53)=w1 at *
 go_cut [3] (fun s3 wc=>s3 = .bool R∧wc=w1)
 case first =>
  by_cases k0:0≤h.line
  case neg =>
   have e:Hid (R=false):=Lib.hid (by rw [hR.out];unfold Hd.runB;simp [k0])
   clear hR
   go_wp2_with (first | (go_at_call 112;(first | (with_reducible refine (q1.out _).mono ?_) | (with_reducible refine (q2.out _).mono ?_));rintro e w3 ⟨rfl,rfl⟩) | fail)
   go_meet
   exact ⟨by rw [e.out];try simpa using k4,rfl⟩
  by_cases k1:h.line<64
  case neg =>
   have e:Hid (R=false):=Lib.hid (by rw [hR.out];unfold Hd.runB;simp [k0,k1])
   clear hR
   go_wp2_with (first | (go_at_call 112;(first | (with_reducible refine (q1.out _).mono ?_) | (with_reducible refine (q2.out _).mono ?_));rintro e w3 ⟨rfl,rfl⟩) | fail)
   go_meet
   exact ⟨by rw [e.out];try simpa using k4,rfl⟩
  cases k2:tmB h.at_
  case false =>
   rw [k2] at q1
   have e:Hid (R=false):=Lib.hid (by rw [hR.out];unfold Hd.runB;simp [k0,k1,k2])
   clear hR
   go_wp2_with (first | (go_at_call 112;(first | (with_reducible refine (q1.out _).mono ?_) | (with_reducible refine (q2.out _).mono ?_));rintro e w3 ⟨rfl,rfl⟩) | fail)
   go_meet
   exact ⟨by rw [e.out];try simpa using k4,rfl⟩
  rw [k2] at q1
  cases k3:tmB h.arrive
  case false =>
   rw [k3] at q2
   have e:Hid (R=false):=Lib.hid (by rw [hR.out];unfold Hd.runB;simp [k0,k1,k2,k3])
   clear hR
   go_wp2_with (first | (go_at_call 112;(first | (with_reducible refine (q1.out _).mono ?_) | (with_reducible refine (q2.out _).mono ?_));rintro e w3 ⟨rfl,rfl⟩) | fail)
   go_meet
   exact ⟨by rw [e.out];try simpa using k4,rfl⟩
  rw [k3] at q2
  have e:Hid (R=true):=Lib.hid (by rw [hR.out];unfold Hd.runB;simp [k0,k1,k2,k3])
  clear hR
  go_wp2_with (first | (go_at_call 112;(first | (with_reducible refine (q1.out _).mono ?_) | (with_reducible refine (q2.out _).mono ?_));rintro e w3 ⟨rfl,rfl⟩) | fail)
  go_meet
  exact ⟨by rw [e.out];try simpa using k4,rfl⟩
 case rest =>
  obtain ⟨rfl,rfl⟩:=hcut
  clear q1 q2
  go_upto_region 2 with fail
  go_cut [4] (fun s4 wd=>s4 = .bool O∧wd=wc)
  case first =>
   by_cases k0:0≤h.from_
   case neg =>
    have e:Hid (O=false):=Lib.hid (by rw [hO.out];unfold Hd.offB;simp [k0])
    clear hO
    go_wp2_with fail
    go_meet
    exact ⟨by rw [e.out];try simpa using k4,rfl⟩
   by_cases k1:h.from_<24
   case neg =>
    have e:Hid (O=false):=Lib.hid (by rw [hO.out];unfold Hd.offB;simp [k0,k1])
    clear hO
    go_wp2_with fail
    go_meet
    exact ⟨by rw [e.out];try simpa using k4,rfl⟩
   by_cases k2:-1≤h.to_
   case neg =>
    have e:Hid (O=false):=Lib.hid (by rw [hO.out];unfold Hd.offB;simp [k0,k1,k2])
    clear hO
    go_wp2_with fail
    go_meet
    exact ⟨by rw [e.out];try simpa using k4,rfl⟩
   by_cases k3:h.to_<24
   case neg =>
    have e:Hid (O=false):=Lib.hid (by rw [hO.out];unfold Hd.offB;simp [k0,k1,k2,k3])
    clear hO
    go_wp2_with fail
    go_meet
    exact ⟨by rw [e.out];try simpa using k4,rfl⟩
   by_cases k4:h.from_≠h.to_
   case neg =>
    have e:Hid (O=false):=Lib.hid (by rw [hO.out];unfold Hd.offB;simp [k0,k1,k2,k3,k4])
    clear hO
    go_wp2_with fail
    go_meet
    exact ⟨by rw [e.out];try simpa using k4,rfl⟩
   have e:Hid (O=true):=Lib.hid (by rw [hO.out];unfold Hd.offB;simp [k0,k1,k2,k3,k4])
   clear hO
   go_wp2_with fail
   go_meet
   exact ⟨by rw [e.out];try simpa using k4,rfl⟩
  case rest =>
   obtain ⟨rfl,rfl⟩:=hcut
   cases R
   case false =>
    go_wp2_with fail
    go_ret
    exact ⟨ret_bool (by simp),hb⟩
   cases O
   case false =>
    go_wp2_with fail
    go_ret
    exact ⟨ret_bool (by simp),hb⟩
   clear hR hO
   by_cases k0:0≤h.leg
   case neg =>
    have e:Hid (E=false):=Lib.hid (by rw [hE.out];unfold Hd.endB;simp [k0])
    clear hE
    go_wp2_with (first | (go_at_call 112;(first | (with_reducible refine (q3.out _).mono ?_));rintro e w3 ⟨rfl,rfl⟩) | fail)
    go_ret
    exact ⟨ret_bool (by rw [e.out];try rfl),hb⟩
   by_cases k1:h.leg≤8
   case neg =>
    have e:Hid (E=false):=Lib.hid (by rw [hE.out];unfold Hd.endB;simp [k0,k1])
    clear hE
    go_wp2_with (first | (go_at_call 112;(first | (with_reducible refine (q3.out _).mono ?_));rintro e w3 ⟨rfl,rfl⟩) | fail)
    go_ret
    exact ⟨ret_bool (by rw [e.out];try rfl),hb⟩
   by_cases k2:0≤h.many
   case neg =>
    have e:Hid (E=false):=Lib.hid (by rw [hE.out];unfold Hd.endB;simp [k0,k1,k2])
    clear hE
    go_wp2_with (first | (go_at_call 112;(first | (with_reducible refine (q3.out _).mono ?_));rintro e w3 ⟨rfl,rfl⟩) | fail)
    go_ret
    exact ⟨ret_bool (by rw [e.out];try rfl),hb⟩
   by_cases k3:h.many≤64
   case neg =>
    have e:Hid (E=false):=Lib.hid (by rw [hE.out];unfold Hd.endB;simp [k0,k1,k2,k3])
    clear hE
    go_wp2_with (first | (go_at_call 112;(first | (with_reducible refine (q3.out _).mono ?_));rintro e w3 ⟨rfl,rfl⟩) | fail)
    go_ret
    exact ⟨ret_bool (by rw [e.out];try rfl),hb⟩
   cases k4:tmB h.time
   case false =>
    rw [k4] at q3
    have e:Hid (E=false):=Lib.hid (by rw [hE.out];unfold Hd.endB;simp [k0,k1,k2,k3,k4])
    clear hE
    go_wp2_with (first | (go_at_call 112;(first | (with_reducible refine (q3.out _).mono ?_));rintro e w3 ⟨rfl,rfl⟩) | fail)
    go_ret
    exact ⟨ret_bool (by rw [e.out];try rfl),hb⟩
   rw [k4] at q3
   have e:Hid (E=true):=Lib.hid (by rw [hE.out];unfold Hd.endB;simp [k0,k1,k2,k3,k4])
   clear hE
   go_wp2_with (first | (go_at_call 112;(first | (with_reducible refine (q3.out _).mono ?_));rintro e w3 ⟨rfl,rfl⟩) | fail)
   go_ret
   exact ⟨ret_bool (by rw [e.out];try rfl),hb⟩
theorem ref_letter (x:Ltr) (hx:∀ y∈x.its,y.ok) (W:World):Calls Tryz.prog 122 #[x.agg] W (fun r w'=>∃ v,r = .returned v∧Below W.heap.size W w'∧w'.ownsRow W.heap.size 5 1 v x.txt.length (byts x.txt)):=by
 have BX:=Blk.new W 70 #[.int .i64 x.a0,.int .i64 x.b0,.int .i64 x.a1,.int .i64 x.b1,.int .i64 x.a2,.int .i64 x.b2] _ rfl
 have hb:=bAl (bRefl W) (.cells #[.int .i64 x.a0,.int .i64 x.b0,.int .i64 x.a1,.int .i64 x.b1,.int .i64 x.a2,.int .i64 x.b2] 70)
 unfold Ltr.agg
 go_enter Tryz.func122,Tryz.ntmps122
 go_upto_region 1 with fail
 generalize W.alloc (.cells #[.int .i64 x.a0,.int .i64 x.b0,.int .i64 x.a1,.int .i64 x.b1,.int .i64 x.a2,.int .i64 x.b2] 70)=w1 at *
 obtain ⟨c0,c1,c2,c3,c4,c5⟩:=BX.six
 have q:=ref_ints (some ⟨w1.heap.size,0,none⟩) 6 6 [x.a0,x.b0,x.a1,x.b1,x.a2,x.b2] (w1.alloc (.cells #[.int .i64 x.a0,.int .i64 x.b0,.int .i64 x.a1,.int .i64 x.b1,.int .i64 x.a2,.int .i64 x.b2] 3)) (Rd.of_blk (Blk.new w1 3 _ _ rfl) rfl rfl) (by omega)
 go_wp2_with fail
 (with_reducible refine q.mono ?_)
 rintro e w2 ⟨A2,c2',rfl,b2,hR⟩
 have hb2:=bCall (bAl hb (.cells #[.int .i64 x.a0,.int .i64 x.b0,.int .i64 x.a1,.int .i64 x.b1,.int .i64 x.a2,.int .i64 x.b2] 3)) b2
 have q2:=ref_encodeO A2 6 c2' x.its w2 hR hx (by omega)
 unfold listV at q2 ⊢
 clear q
 have ht:Hid (x.txt=encN x.its):=Lib.hid rfl
 go_wp2_with fail
 (with_reducible refine q2.mono ?_)
 rintro e w3 ⟨v3,rfl,b3,hS⟩
 have hb3:=bCall hb2 b3
 clear q2
 go_wp2_with fail
 go_ret
 exact ⟨_,rfl,hb3,by rw [ht.out];exact own_base hS hb2.size⟩
theorem ref_vtext1 (s:ByteArray) (W:World):Calls Tryz.prog 116 #[.string s] W (Ret (textV s) W):=by
 have hb:=bAl (bRefl W) (.cells #[.int .i64 2,.int .i64 0,.string s,.slice none 0 0] 162)
 go_enter Tryz.func116,Tryz.ntmps116
 go_wp2_with fail
 exact bodyPost_ret (v:=textV s) (by simp [results,Tryz.results116,go_sem,textV]) rfl ⟨rfl,hb⟩
theorem ref_vlist1 (A:Option Addr) (n c:Nat) (W:World):Calls Tryz.prog 141 #[.slice A n c] W (Ret (listV A n c) W):=by
 have hb:=bAl (bRefl W) (.cells #[.int .i64 3,.int .i64 0,.string ⟨#[]⟩,.slice A n c] 162)
 go_enter Tryz.func141,Tryz.ntmps141
 go_wp2_with fail
 exact bodyPost_ret (v:=listV A n c) (by simp [results,Tryz.results141,go_sem,listV]) rfl ⟨rfl,hb⟩
theorem ref_point (key E S:Int) (hE:0≤E∧E<1073741789) (W:World):Calls Tryz.prog 114 #[.int .i64 key,.agg #[.int .i64 E,.int .i64 S]] W (Ret (.int .i64 (ptV key E S)) W):=by
 have BE:=Blk.new W 51 #[.int .i64 E,.int .i64 S] _ rfl
 have hb:=bAl (bRefl W) (.cells #[.int .i64 E,.int .i64 S] 51)
 obtain ⟨c0,c1⟩:=pair_cells BE
 have hneg:IntKind.i64.wrap (-E) = -E:=by rw [IntKind.wrap_i64];omega
 have hv:ptV key E S=mulV (powV 4 S) (powV key (-E)):=rfl
 rw [hv]
 have q1:=ref_pow 4 S
 have q2:=ref_pow key (-E)
 have q3:=ref_mul (powV 4 S) (powV key (-E))
 generalize mulE (powV 4 S) (powV key (-E))=me at *
 generalize mulV (powV 4 S) (powV key (-E))=mv at *
 generalize powV 4 S=p1 at *
 generalize powV key (-E)=p2 at *
 generalize powE 4=e1 at *
 generalize powE key=e2 at *
 clear hv
 go_enter Tryz.func114,Tryz.ntmps114
 go_upto_region 1 with fail
 generalize W.alloc (.cells #[.int .i64 E,.int .i64 S] 51)=w1 at *
 go_wp2_with fail
 (with_reducible refine (q1 _).mono ?_)
 rintro e w2 ⟨rfl,rfl⟩
 clear q1
 go_wp2_with fail
 (with_reducible refine (q2 _).mono ?_)
 rintro e w2 ⟨rfl,rfl⟩
 clear q2
 go_wp2_with fail
 (with_reducible refine (q3 _).mono ?_)
 rintro e w2 ⟨rfl,rfl⟩
 clear q3
 go_wp2_with fail
 go_ret
 exact ⟨rfl,hb⟩
theorem ref_hash11 (pt key:Int) (A:Option Addr) (c:Nat) (b:List Nat) (W:World) (ip:inI pt) (ik:inI key) (hA:Rd W W.heap.size 1 A b.length (byts b)) (hob:okB b) (h0:0<b.length) (hlen:b.length≤1000000) :
  Calls Tryz.prog 113 #[.int .i64 pt,.int .i64 key,.slice A b.length c] W (Ret (.int .i64 (sgV pt key b:Nat)) W):=by
 have hok:∀ x∈[It.int pt,.int key,.text (dgS b)],x.ok:=by
  intro x hx
  simp only [List.mem_cons,List.not_mem_nil,or_false] at hx
  rcases hx with rfl | rfl | rfl
  ·exact ip
  ·exact ik
  ·show (dgS b).size≤1000000;rw [dgS_size];exact hlen
 have hl:(encN [It.int pt,.int key,.text (dgS b)]).length≤1000012012:=encN_len hok (by simp)
 have hoE:=okB_encN [It.int pt,.int key,.text (dgS b)]
 have KS:Hid (∀ w',Below W.heap.size W w'→(convert 123 9 (.slice A b.length c)).run Tryz.prog w' = .ok (.string (dgS b)) w'):=Lib.hid (fun w' h=>convert_rowN ((hA.below h).more h.size) h0 hob)
 have hv:Hid (sgV pt key b=hashV (sb sgS) (encN [It.int pt,.int key,.text (dgS b)])):=Lib.hid rfl
 obtain ⟨V,hV⟩:∃ V,Hid (V=sgV pt key b):=⟨_,Lib.hid rfl⟩
 rw [←hV.out]
 have q1:∀ n w,_:=ref_vint
 unfold intV at q1
 have q2:∀ s w,_:=ref_vtext1
 unfold textV at q2
 have q3:∀ A n c w,_:=ref_vlist1
 unfold listV at q3
 have q4:Hid (∀ (A:Option Addr) (c:Nat) (w:World),Rd w w.heap.size 4 A 3 ([It.int pt,.int key,.text (dgS b)].flatMap It.cells)→_):=Lib.hid (fun A c w h=>ref_encode A 3 c [It.int pt,.int key,.text (dgS b)] w h hok (by omega))
 obtain ⟨cl,hcl⟩:∃ cl,cl=[It.int pt,.int key,.text (dgS b)].flatMap It.cells:=⟨_,rfl⟩
 obtain ⟨En,hEn⟩:∃ En,En=encN [It.int pt,.int key,.text (dgS b)]:=⟨_,rfl⟩
 rw [←hcl,←hEn] at q4
 rw [←hEn] at hl hoE hv
 unfold listV at q4
 have hcl2:cl=[.int .i64 1,.int .i64 pt,.string ⟨#[]⟩,.slice none 0 0,.int .i64 1,.int .i64 key,.string ⟨#[]⟩,.slice none 0 0,.int .i64 2,.int .i64 0,.string (dgS b),.slice none 0 0]:=hcl
 clear hcl hEn hok hA hob h0 hlen ip ik
 have Hcl:=Lib.hid hcl2
 clear hcl2
 go_enter Tryz.func113,Tryz.ntmps113
 go_upto_region 1 with fail
 refine wp_region_schB (f:=13) KS [(0,1),(2,1),(4,1),(5,2),(1,0),(3,0),(6,0),(7,0),(8,0),(9,0),(10,1),(11,1),(12,1),(13,3),(14,3)] ?_
 simp only [pickS,List.getElem?_cons_zero,List.getElem?_cons_succ]
 iterate 3 refine wpSched_t ?_
 refine wpSched_r ?_
 refine wpSched_force (fun K hK=>?_)
 go_simp;(first | (go_at_call 117;(with_reducible refine (q1 _ _).mono ?_);rintro e w9 ⟨rfl,b9⟩;have B7:Below W.heap.size W w9:=bCall (by repeat (first | with_reducible exact B7 | with_reducible exact bRefl _ | with_reducible refine bDr ?_ | with_reducible refine bAl ?_ _)) b9) | (go_at_call 116;(with_reducible refine (q2 _ _).mono ?_);rintro e w9 ⟨rfl,b9⟩;have B7:Below W.heap.size W w9:=bCall (by repeat (first | with_reducible exact B7 | with_reducible exact bRefl _ | with_reducible refine bDr ?_ | with_reducible refine bAl ?_ _)) b9) | (go_at_call 141;(with_reducible refine (q3 _ _ _ _).mono ?_);rintro e w8 ⟨rfl,b8⟩;have HR:=((Rd.new w9 [.int .i64 1,.int .i64 pt,.string ⟨#[]⟩,.slice none 0 0,.int .i64 1,.int .i64 key,.string ⟨#[]⟩,.slice none 0 0,.int .i64 2,.int .i64 0,.string (dgS b),.slice none 0 0] 162 4 3 _ rfl rfl).below b8).more b8.size;have B8:Below W.heap.size W w8:=bCall (by repeat (first | with_reducible exact B7 | with_reducible exact bRefl _ | with_reducible refine bDr ?_ | with_reducible refine bAl ?_ _)) b8) | (go_at_call 118;(with_reducible refine (q4.out _ _ _ (Hcl.out.symm▸HR)).mono ?_);rintro e w6 ⟨v6,rfl,b6,A6,c6,rfl,hR6,_,_,hn6⟩;have B6:Below W.heap.size W w6:=bCall B8 b6) | skip)
 refine shut_go hK KS ?_
 clear hK K
 refine wpSched_force (fun K hK=>?_)
 go_simp;(first | (go_at_call 117;(with_reducible refine (q1 _ _).mono ?_);rintro e w9 ⟨rfl,b9⟩;have B7:Below W.heap.size W w9:=bCall (by repeat (first | with_reducible exact B7 | with_reducible exact bRefl _ | with_reducible refine bDr ?_ | with_reducible refine bAl ?_ _)) b9) | (go_at_call 116;(with_reducible refine (q2 _ _).mono ?_);rintro e w9 ⟨rfl,b9⟩;have B7:Below W.heap.size W w9:=bCall (by repeat (first | with_reducible exact B7 | with_reducible exact bRefl _ | with_reducible refine bDr ?_ | with_reducible refine bAl ?_ _)) b9) | (go_at_call 141;(with_reducible refine (q3 _ _ _ _).mono ?_);rintro e w8 ⟨rfl,b8⟩;have HR:=((Rd.new w9 [.int .i64 1,.int .i64 pt,.string ⟨#[]⟩,.slice none 0 0,.int .i64 1,.int .i64 key,.string ⟨#[]⟩,.slice none 0 0,.int .i64 2,.int .i64 0,.string (dgS b),.slice none 0 0] 162 4 3 _ rfl rfl).below b8).more b8.size;have B8:Below W.heap.size W w8:=bCall (by repeat (first | with_reducible exact B7 | with_reducible exact bRefl _ | with_reducible refine bDr ?_ | with_reducible refine bAl ?_ _)) b8) | (go_at_call 118;(with_reducible refine (q4.out _ _ _ (Hcl.out.symm▸HR)).mono ?_);rintro e w6 ⟨v6,rfl,b6,A6,c6,rfl,hR6,_,_,hn6⟩;have B6:Below W.heap.size W w6:=bCall B8 b6) | skip)
 refine shut_go hK KS ?_
 clear hK K
 refine wpSched_force (fun K hK=>?_)
 go_simp;(first | (go_at_call 117;(with_reducible refine (q1 _ _).mono ?_);rintro e w9 ⟨rfl,b9⟩;have B7:Below W.heap.size W w9:=bCall (by repeat (first | with_reducible exact B7 | with_reducible exact bRefl _ | with_reducible refine bDr ?_ | with_reducible refine bAl ?_ _)) b9) | (go_at_call 116;(with_reducible refine (q2 _ _).mono ?_);rintro e w9 ⟨rfl,b9⟩;have B7:Below W.heap.size W w9:=bCall (by repeat (first | with_reducible exact B7 | with_reducible exact bRefl _ | with_reducible refine bDr ?_ | with_reducible refine bAl ?_ _)) b9) | (go_at_call 141;(with_reducible refine (q3 _ _ _ _).mono ?_);rintro e w8 ⟨rfl,b8⟩;have HR:=((Rd.new w9 [.int .i64 1,.int .i64 pt,.string ⟨#[]⟩,.slice none 0 0,.int .i64 1,.int .i64 key,.string ⟨#[]⟩,.slice none 0 0,.int .i64 2,.int .i64 0,.string (dgS b),.slice none 0 0] 162 4 3 _ rfl rfl).below b8).more b8.size;have B8:Below W.heap.size W w8:=bCall (by repeat (first | with_reducible exact B7 | with_reducible exact bRefl _ | with_reducible refine bDr ?_ | with_reducible refine bAl ?_ _)) b8) | (go_at_call 118;(with_reducible refine (q4.out _ _ _ (Hcl.out.symm▸HR)).mono ?_);rintro e w6 ⟨v6,rfl,b6,A6,c6,rfl,hR6,_,_,hn6⟩;have B6:Below W.heap.size W w6:=bCall B8 b6) | skip)
 refine shut_go hK KS ?_
 clear hK K
 refine wpSched_force (fun K hK=>?_)
 go_simp;(first | (go_at_call 117;(with_reducible refine (q1 _ _).mono ?_);rintro e w9 ⟨rfl,b9⟩;have B7:Below W.heap.size W w9:=bCall (by repeat (first | with_reducible exact B7 | with_reducible exact bRefl _ | with_reducible refine bDr ?_ | with_reducible refine bAl ?_ _)) b9) | (go_at_call 116;(with_reducible refine (q2 _ _).mono ?_);rintro e w9 ⟨rfl,b9⟩;have B7:Below W.heap.size W w9:=bCall (by repeat (first | with_reducible exact B7 | with_reducible exact bRefl _ | with_reducible refine bDr ?_ | with_reducible refine bAl ?_ _)) b9) | (go_at_call 141;(with_reducible refine (q3 _ _ _ _).mono ?_);rintro e w8 ⟨rfl,b8⟩;have HR:=((Rd.new w9 [.int .i64 1,.int .i64 pt,.string ⟨#[]⟩,.slice none 0 0,.int .i64 1,.int .i64 key,.string ⟨#[]⟩,.slice none 0 0,.int .i64 2,.int .i64 0,.string (dgS b),.slice none 0 0] 162 4 3 _ rfl rfl).below b8).more b8.size;have B8:Below W.heap.size W w8:=bCall (by repeat (first | with_reducible exact B7 | with_reducible exact bRefl _ | with_reducible refine bDr ?_ | with_reducible refine bAl ?_ _)) b8) | (go_at_call 118;(with_reducible refine (q4.out _ _ _ (Hcl.out.symm▸HR)).mono ?_);rintro e w6 ⟨v6,rfl,b6,A6,c6,rfl,hR6,_,_,hn6⟩;have B6:Below W.heap.size W w6:=bCall B8 b6) | skip)
 refine shut_go hK KS ?_
 clear hK K
 refine wpSched_force (fun K hK=>?_)
 go_simp;(first | (go_at_call 117;(with_reducible refine (q1 _ _).mono ?_);rintro e w9 ⟨rfl,b9⟩;have B7:Below W.heap.size W w9:=bCall (by repeat (first | with_reducible exact B7 | with_reducible exact bRefl _ | with_reducible refine bDr ?_ | with_reducible refine bAl ?_ _)) b9) | (go_at_call 116;(with_reducible refine (q2 _ _).mono ?_);rintro e w9 ⟨rfl,b9⟩;have B7:Below W.heap.size W w9:=bCall (by repeat (first | with_reducible exact B7 | with_reducible exact bRefl _ | with_reducible refine bDr ?_ | with_reducible refine bAl ?_ _)) b9) | (go_at_call 141;(with_reducible refine (q3 _ _ _ _).mono ?_);rintro e w8 ⟨rfl,b8⟩;have HR:=((Rd.new w9 [.int .i64 1,.int .i64 pt,.string ⟨#[]⟩,.slice none 0 0,.int .i64 1,.int .i64 key,.string ⟨#[]⟩,.slice none 0 0,.int .i64 2,.int .i64 0,.string (dgS b),.slice none 0 0] 162 4 3 _ rfl rfl).below b8).more b8.size;have B8:Below W.heap.size W w8:=bCall (by repeat (first | with_reducible exact B7 | with_reducible exact bRefl _ | with_reducible refine bDr ?_ | with_reducible refine bAl ?_ _)) b8) | (go_at_call 118;(with_reducible refine (q4.out _ _ _ (Hcl.out.symm▸HR)).mono ?_);rintro e w6 ⟨v6,rfl,b6,A6,c6,rfl,hR6,_,_,hn6⟩;have B6:Below W.heap.size W w6:=bCall B8 b6) | skip)
 refine shut_go hK KS ?_
 clear hK K
 refine wpSched_force (fun K hK=>?_)
 go_simp;(first | (go_at_call 117;(with_reducible refine (q1 _ _).mono ?_);rintro e w9 ⟨rfl,b9⟩;have B7:Below W.heap.size W w9:=bCall (by repeat (first | with_reducible exact B7 | with_reducible exact bRefl _ | with_reducible refine bDr ?_ | with_reducible refine bAl ?_ _)) b9) | (go_at_call 116;(with_reducible refine (q2 _ _).mono ?_);rintro e w9 ⟨rfl,b9⟩;have B7:Below W.heap.size W w9:=bCall (by repeat (first | with_reducible exact B7 | with_reducible exact bRefl _ | with_reducible refine bDr ?_ | with_reducible refine bAl ?_ _)) b9) | (go_at_call 141;(with_reducible refine (q3 _ _ _ _).mono ?_);rintro e w8 ⟨rfl,b8⟩;have HR:=((Rd.new w9 [.int .i64 1,.int .i64 pt,.string ⟨#[]⟩,.slice none 0 0,.int .i64 1,.int .i64 key,.string ⟨#[]⟩,.slice none 0 0,.int .i64 2,.int .i64 0,.string (dgS b),.slice none 0 0] 162 4 3 _ rfl rfl).below b8).more b8.size;have B8:Below W.heap.size W w8:=bCall (by repeat (first | with_reducible exact B7 | with_reducible exact bRefl _ | with_reducible refine bDr ?_ | with_reducible refine bAl ?_ _)) b8) | (go_at_call 118;(with_reducible refine (q4.out _ _ _ (Hcl.out.symm▸HR)).mono ?_);rintro e w6 ⟨v6,rfl,b6,A6,c6,rfl,hR6,_,_,hn6⟩;have B6:Below W.heap.size W w6:=bCall B8 b6) | skip)
 refine shut_go hK KS ?_
 clear hK K
 iterate 3 refine wpSched_t ?_
 refine wpSched_last ?_
 first | simp only [List.map_nil] | simp only [List.map_cons,List.map_nil]
 go_wp2_with fail
 refine NoPanic.normal ?_
 go_wp2_with fail
 have q5:=ref_hash sgS A6 En.length c6 En w6 hR6 hn6 hoE (by decide) (Nat.le_trans hl (by decide))
 rw [←hv.out,←hV.out] at q5
 unfold sgS at q5
 (with_reducible refine q5.mono ?_)
 rintro e w5 ⟨rfl,b5⟩
 have hb5:=bCall B6 b5
 clear q5
 go_wp2_with fail
 go_ret
 exact ⟨rfl,hb5⟩
theorem ref_verify11 (key:Int) (A:Option Addr) (c:Nat) (b:List Nat) (E S:Int) (W:World) (ik:inI key) (hA:Rd W W.heap.size 1 A b.length (byts b)) (hob:okB b) (h0:0<b.length) (hlen:b.length≤1000000) :
  Calls Tryz.prog 76 #[.int .i64 key,.slice A b.length c,.agg #[.int .i64 E,.int .i64 S]] W (Ret (.bool (sgB key b E S)) W):=by
 have BE:=Blk.new W 51 #[.int .i64 E,.int .i64 S] _ rfl
 have hb:=bAl (bRefl W) (.cells #[.int .i64 E,.int .i64 S] 51)
 have q1:=ref_valid key
 obtain ⟨V,hV⟩:∃ V,Hid (V=sgB key b E S):=⟨_,Lib.hid rfl⟩
 rw [←hV.out]
 obtain ⟨c0,c1⟩:=pair_cells BE
 go_enter Tryz.func76,Tryz.ntmps76
 go_upto_region 1 with fail
 generalize W.alloc (.cells #[.int .i64 E,.int .i64 S] 51)=w1 at *
 cases hk:validB key with
 | false =>
  rw [hk] at q1
  have e:Hid (V=false):=Lib.hid (by rw [hV.out];exact sgB_key hk)
  go_wp2_with fail
  (with_reducible refine (q1 _).mono ?_)
  rintro e w2 ⟨rfl,rfl⟩
  go_wp2_with fail
  go_ret
  exact ⟨ret_bool (by rw [e.out]),hb⟩
 | true =>
 rw [hk] at q1
 by_cases ho:(ordB E&&ordB S)=true
 case neg =>
  rw [Bool.not_eq_true] at ho
  have e:Hid (V=false):=Lib.hid (by rw [hV.out];exact sgB_no ho)
  have hh:=ordB_no ho
  clear ho hk
  by_cases h1:E<0
  case pos =>
   go_wp2_with fail
   (with_reducible refine (q1 _).mono ?_)
   rintro e w2 ⟨rfl,rfl⟩
   go_wp2_with fail
   go_ret
   exact ⟨ret_bool (by rw [e.out]),hb⟩
  by_cases h2:1073741789≤E
  case pos =>
   go_wp2_with fail
   (with_reducible refine (q1 _).mono ?_)
   rintro e w2 ⟨rfl,rfl⟩
   go_wp2_with fail
   go_ret
   exact ⟨ret_bool (by rw [e.out]),hb⟩
  by_cases h3:S<0
  case pos =>
   go_wp2_with fail
   (with_reducible refine (q1 _).mono ?_)
   rintro e w2 ⟨rfl,rfl⟩
   go_wp2_with fail
   go_ret
   exact ⟨ret_bool (by rw [e.out]),hb⟩
  have h4:1073741789≤S:=by omega
  clear hh
  go_wp2_with fail
  (with_reducible refine (q1 _).mono ?_)
  rintro e w2 ⟨rfl,rfl⟩
  go_wp2_with fail
  go_ret
  exact ⟨ret_bool (by rw [e.out]),hb⟩
 obtain ⟨⟨e1,e2⟩,e3,e4⟩:=ordB_yes ho
 have hV2:Hid (V=decide (E=(sgV (ptV key E S) key b:Nat))):=Lib.hid (by rw [hV.out];exact sgB_yes ho hk)
 clear hV ho hk
 have i1:¬E<0:=by omega
 have i2:¬1073741789≤E:=by omega
 have i3:¬S<0:=by omega
 have i4:¬1073741789≤S:=by omega
 have q2:Hid (∀ w,Calls Tryz.prog 114 #[.int .i64 key,.agg #[.int .i64 E,.int .i64 S]] w (Ret (.int .i64 (ptV key E S)) w)):=Lib.hid (fun w=>ref_point key E S ⟨e1,e3⟩ w)
 have iP:inI (ptV key E S):=by have:=mulV_in (powV 4 S) (powV key (-E));unfold ptV;exact ⟨by omega,by omega⟩
 have q3:Hid (∀ w,Below W.heap.size W w→Calls Tryz.prog 113 #[.int .i64 (ptV key E S),.int .i64 key,.slice A b.length c] w (Ret (.int .i64 (sgV (ptV key E S) key b:Nat)) w)):=Lib.hid (fun w h=>ref_hash11 (ptV key E S) key A c b w iP ik ((hA.below h).more h.size) hob h0 hlen)
 generalize sgV (ptV key E S) key b=G at *
 generalize ptV key E S=P at *
 clear e1 e2 e3 e4
 go_wp2_with fail
 (with_reducible refine (q1 _).mono ?_)
 rintro e w2 ⟨rfl,rfl⟩
 go_upto_region 3 with fail
 clear i1 i2 i3 i4 q1
 have KS:Hid (∀ w',Below w1.heap.size w1 w'→w'.cell? ⟨W.heap.size,0,none⟩=some (.int .i64 E)∧w'.cell? ⟨W.heap.size,1,none⟩=some (.int .i64 S)):=Lib.hid (fun w' h=>pair_cells (BE.below h BE.lt))
 refine wp_region_schB (f:=9) KS [(0,1),(1,2),(2,1),(3,2),(5,1),(6,1),(4,0),(7,0),(8,1),(9,3)] ?_
 simp only [pickS,List.getElem?_cons_zero,List.getElem?_cons_succ]
 refine wpSched_t ?_
 refine wpSched_r ?_
 refine wpSched_t ?_
 refine wpSched_r ?_
 iterate 2 refine wpSched_t ?_
 refine wpSched_force (fun K hK=>?_)
 go_simp;(first | (go_at_call 114;(with_reducible refine (q2.out _).mono ?_);rintro e w7 ⟨rfl,b7⟩;have B7:Below w1.heap.size w1 w7:=bCall (by repeat (first | with_reducible exact bRefl _ | with_reducible refine bDr ?_)) b7) | (go_at_call 113;(with_reducible refine (q3.out _ (bCall hb B7)).mono ?_);rintro e w8 ⟨rfl,b8⟩;have B8:Below w1.heap.size w1 w8:=bCall B7 b8) | skip)
 refine shut_go hK KS ?_
 clear hK K
 refine wpSched_force (fun K hK=>?_)
 go_simp;(first | (go_at_call 114;(with_reducible refine (q2.out _).mono ?_);rintro e w7 ⟨rfl,b7⟩;have B7:Below w1.heap.size w1 w7:=bCall (by repeat (first | with_reducible exact bRefl _ | with_reducible refine bDr ?_)) b7) | (go_at_call 113;(with_reducible refine (q3.out _ (bCall hb B7)).mono ?_);rintro e w8 ⟨rfl,b8⟩;have B8:Below w1.heap.size w1 w8:=bCall B7 b8) | skip)
 refine shut_go hK KS ?_
 clear hK K
 refine wpSched_t ?_
 refine wpSched_last ?_
 first | simp only [List.map_nil] | simp only [List.map_cons,List.map_nil]
 go_wp2_with fail
 refine NoPanic.normal ?_
 go_wp2_with fail
 go_ret
 exact ⟨ret_bool (by rw [hV2.out,Bool.eq_iff_iff];simp),bCall hb B8⟩
end Go.Proofs.YtoeobcmmafncmaaGreatDoor

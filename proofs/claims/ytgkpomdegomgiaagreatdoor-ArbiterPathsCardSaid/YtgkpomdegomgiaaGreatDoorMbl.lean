/- The reference's group: exponent, Pow, Mul, Element. -/
import Derived.Test.YtgkpomdegomgiaaGreatDoorMbh
import Derived.Test.YtgkpomdegomgiaaGreatDoorMbd
import Derived.Test.YtgkpomdegomgiaaGreatDoorMbk
set_option maxRecDepth 1000000
set_option maxHeartbeats 16000000
namespace Go.Proofs.YtgkpomdegomgiaaGreatDoor
open Go.RowKit
theorem tmod_to_emod (n:Int):n % 1073741789=if n.tmod 1073741789<0 then n.tmod 1073741789+1073741789 else n.tmod 1073741789:=by
  have h1:=tmod_q n
  have h2:=tmod_emod n
  generalize n.tmod 1073741789=t at *
  split <;> omega
theorem ref_exponent (n:Int) (W:World):Calls Tryz.prog 147 #[.int .i64 n] W (Same (.int .i64 (n % 1073741789)) W):=by
  have h0:=tmod_to_emod n
  have h1:=tmod_q n
  obtain ⟨v,hv⟩:∃ v,v=n % 1073741789:=⟨_,rfl⟩
  rw [←hv] at h0 ⊢
  clear hv
  go_enter Tryz.func147,Tryz.ntmps147
  by_cases hn:n.tmod 1073741789<0
  · rw [if_pos hn] at h0
    have Hv:=Lib.hid h0
    have hw:IntKind.i64.wrap (n.tmod 1073741789+1073741789)=n.tmod 1073741789+1073741789:=by rw [IntKind.wrap_i64];omega
    clear h0 h1
    go_wp2_with fail
    go_ret
    exact ⟨by rw [Hv.out];rfl,rfl⟩
  · rw [if_neg hn] at h0
    have Hv:=Lib.hid h0
    clear h0 h1
    go_wp2_with fail
    go_ret
    exact ⟨by rw [Hv.out];rfl,rfl⟩
theorem ref_pow (a n:Int) (W:World):Calls Tryz.prog 122 #[.int .i64 a,.int .i64 n] W (Same (.tuple #[.int .i64 (powV a n),.int .i64 (powE a)]) W):=by
  have q:=ref_valid a W
  have q2:=ref_exponent n W
  obtain ⟨v,hv⟩:∃ v,v=powV a n:=⟨_,rfl⟩
  obtain ⟨e,he⟩:∃ e,e=powE a:=⟨_,rfl⟩
  rw [←hv,←he]
  cases hb:validB a
  · have hx:Hid (v=0∧e=90):=Lib.hid ⟨by rw [hv];unfold powV;rw [hb];rfl,by rw [he];unfold powE;rw [hb];rfl⟩
    rw [hb] at q
    clear hv he hb
    go_enter Tryz.func122,Tryz.ntmps122
    go_wp2_with fail
    (with_reducible refine q.mono ?_)
    rintro r w' ⟨rfl,rfl⟩
    go_wp2_with fail
    go_ret2
    exact ⟨ret_ii hx.out.1.symm hx.out.2.symm,rfl⟩
  · have hr:=validB_rng hb
    have hx:Hid (v=((powP a.toNat (expN n):Nat):Int)∧e=0):=Lib.hid ⟨by rw [hv];unfold powV;rw [if_pos hb],by rw [he];unfold powE;rw [if_pos hb]⟩
    have hn:((expN n:Nat):Int)=n % 1073741789:=by unfold expN;omega
    have q3:=ref_power a.toNat (expN n) W (by omega) (by have:=expN_lt n;omega)
    rw [show ((a.toNat:Nat):Int)=a by omega,hn] at q3
    rw [hb] at q
    generalize ((powP a.toNat (expN n):Nat):Int)=u at *
    generalize n % 1073741789=m at *
    clear hv he hb hn hr
    go_enter Tryz.func122,Tryz.ntmps122
    go_wp2_with fail
    (with_reducible refine q.mono ?_)
    rintro r w' ⟨rfl,rfl⟩
    go_wp2_with fail
    (with_reducible refine q2.mono ?_)
    rintro r w' ⟨rfl,rfl⟩
    go_wp2_with fail
    (with_reducible refine q3.mono ?_)
    rintro r w' ⟨rfl,rfl⟩
    go_wp2_with fail
    go_ret2
    exact ⟨ret_ii hx.out.1.symm hx.out.2.symm,rfl⟩
theorem ref_mul (a b:Int) (W:World):Calls Tryz.prog 123 #[.int .i64 a,.int .i64 b] W (Same (.tuple #[.int .i64 (mulV a b),.int .i64 (mulE a b)]) W):=by
  have q1:=ref_valid a W
  have q2:=ref_valid b W
  obtain ⟨v,hv⟩:∃ v,v=mulV a b:=⟨_,rfl⟩
  obtain ⟨e,he⟩:∃ e,e=mulE a b:=⟨_,rfl⟩
  rw [←hv,←he]
  cases ha:validB a
  · have hx:Hid (v=0∧e=90):=Lib.hid ⟨by rw [hv];exact (mulV_no1 (by rw [ha];simp)).1,by rw [he];exact (mulV_no1 (by rw [ha];simp)).2⟩
    rw [ha] at q1
    clear hv he ha
    go_enter Tryz.func123,Tryz.ntmps123
    go_wp2_with fail
    (with_reducible refine q1.mono ?_)
    rintro r w' ⟨rfl,rfl⟩
    go_wp2_with fail
    go_ret2
    exact ⟨ret_ii hx.out.1.symm hx.out.2.symm,rfl⟩
  cases hb:validB b
  · have hx:Hid (v=0∧e=90):=Lib.hid ⟨by rw [hv];exact (mulV_no2 (by rw [hb];simp)).1,by rw [he];exact (mulV_no2 (by rw [hb];simp)).2⟩
    rw [ha] at q1
    rw [hb] at q2
    clear hv he ha hb
    go_enter Tryz.func123,Tryz.ntmps123
    go_wp2_with fail
    (with_reducible refine q1.mono ?_)
    rintro r w' ⟨rfl,rfl⟩
    go_wp2_with fail
    (with_reducible refine q2.mono ?_)
    rintro r w' ⟨rfl,rfl⟩
    go_wp2_with fail
    go_ret2
    exact ⟨ret_ii hx.out.1.symm hx.out.2.symm,rfl⟩
  · have r1:=validB_rng ha
    have r2:=validB_rng hb
    have hm:=mul_rng (a:=a) (b:=b) (by omega) (by omega) (by omega) (by omega)
    have hx:Hid (v=a*b % 2147483579∧e=0):=Lib.hid ⟨by rw [hv];exact (mulV_yes ha hb).1,by rw [he];exact (mulV_yes ha hb).2⟩
    have hw:IntKind.i64.wrap (a*b)=a*b:=by rw [IntKind.wrap_i64];omega
    have ht:(a*b).tmod 2147483579=a*b % 2147483579:=Int.tmod_eq_emod_of_nonneg hm.1
    have hw2:IntKind.i64.wrap (a*b % 2147483579)=a*b % 2147483579:=by rw [IntKind.wrap_i64];omega
    rw [ha] at q1
    rw [hb] at q2
    clear hv he ha hb r1 r2
    go_enter Tryz.func123,Tryz.ntmps123
    go_wp2_with fail
    (with_reducible refine q1.mono ?_)
    rintro r w' ⟨rfl,rfl⟩
    go_wp2_with fail
    (with_reducible refine q2.mono ?_)
    rintro r w' ⟨rfl,rfl⟩
    go_wp2_with fail
    go_ret2
    exact ⟨ret_ii hx.out.1.symm hx.out.2.symm,rfl⟩
theorem ref_vtext1 (s:ByteArray) (W:World):Calls Tryz.prog 88 #[.string s] W (Ret (textV s) W):=by
  have hb:=bAl (bRefl W) (.cells #[.int .i64 2,.int .i64 0,.string s,.slice none 0 0] 145)
  go_enter Tryz.func88,Tryz.ntmps88
  go_wp2_with fail
  exact bodyPost_ret (v:=textV s) (by simp [results,Tryz.results88,go_sem,textV]) rfl ⟨rfl,hb⟩
theorem ref_vlist1 (A:Option Addr) (n c:Nat) (W:World):Calls Tryz.prog 125 #[.slice A n c] W (Ret (listV A n c) W):=by
  have hb:=bAl (bRefl W) (.cells #[.int .i64 3,.int .i64 0,.string ⟨#[]⟩,.slice A n c] 145)
  go_enter Tryz.func125,Tryz.ntmps125
  go_wp2_with fail
  exact bodyPost_ret (v:=listV A n c) (by simp [results,Tryz.results125,go_sem,listV]) rfl ⟨rfl,hb⟩
theorem ref_point (key E S:Int) (hE:0≤E∧E<1073741789) (W:World):Calls Tryz.prog 86 #[.int .i64 key,.agg #[.int .i64 E,.int .i64 S]] W (Ret (.int .i64 (ptV key E S)) W):=by
  have BE:=Blk.new W 45 #[.int .i64 E,.int .i64 S] _ rfl
  have hb:=bAl (bRefl W) (.cells #[.int .i64 E,.int .i64 S] 45)
  obtain ⟨c0,c1⟩:=pair_cells BE
  have hneg:IntKind.i64.wrap (-E) = -E:=by rw [IntKind.wrap_i64];omega
  have hv:ptV key E S=mulV (powV 4 S) (powV key (-E)):=rfl
  rw [hv]
  have q1:=ref_pow 4 S
  have q2:=ref_pow key (-E)
  have q3:=ref_mul (powV 4 S) (powV key (-E))
  generalize mulE (powV 4 S) (powV key (-E))=me at *
  generalize mulV (powV 4 S) (powV key (-E))=mv at *
  generalize powV 4 S=p1 at *
  generalize powV key (-E)=p2 at *
  generalize powE 4=e1 at *
  generalize powE key=e2 at *
  clear hv
  go_enter Tryz.func86,Tryz.ntmps86
  go_upto_region 1 with fail
  generalize W.alloc (.cells #[.int .i64 E,.int .i64 S] 45)=w1 at *
  go_wp2_with fail
  (with_reducible refine (q1 _).mono ?_)
  rintro e w2 ⟨rfl,rfl⟩
  clear q1
  go_wp2_with fail
  (with_reducible refine (q2 _).mono ?_)
  rintro e w2 ⟨rfl,rfl⟩
  clear q2
  go_wp2_with fail
  (with_reducible refine (q3 _).mono ?_)
  rintro e w2 ⟨rfl,rfl⟩
  clear q3
  go_wp2_with fail
  go_ret
  exact ⟨rfl,hb⟩
theorem ref_hash11 (pt key:Int) (A:Option Addr) (c:Nat) (b:List Nat) (W:World) (ip:inI pt) (ik:inI key) (hA:Rd W W.heap.size 1 A b.length (byts b)) (hob:okB b) (h0:0<b.length) (hlen:b.length≤1000000) :
    Calls Tryz.prog 85 #[.int .i64 pt,.int .i64 key,.slice A b.length c] W (Ret (.int .i64 (sgV pt key b:Nat)) W):=by
  have hok:∀ x∈[It.int pt,.int key,.text (dgS b)],x.ok:=by
    intro x hx
    simp only [List.mem_cons,List.not_mem_nil,or_false] at hx
    rcases hx with rfl | rfl | rfl
    · exact ip
    · exact ik
    · show (dgS b).size≤1000000;rw [dgS_size];exact hlen
  have hl:(encN [It.int pt,.int key,.text (dgS b)]).length≤1000012012:=encN_len hok (by simp)
  have hoE:=okB_encN [It.int pt,.int key,.text (dgS b)]
  have KS:Hid (∀ w',Below W.heap.size W w'→(convert 106 9 (.slice A b.length c)).run Tryz.prog w' = .ok (.string (dgS b)) w'):=Lib.hid (fun w' h=>convert_rowN ((hA.below h).more h.size) h0 hob)
  have hv:Hid (sgV pt key b=hashV (sb sgS) (encN [It.int pt,.int key,.text (dgS b)])):=Lib.hid rfl
  obtain ⟨V,hV⟩:∃ V,Hid (V=sgV pt key b):=⟨_,Lib.hid rfl⟩
  rw [←hV.out]
  have q1:∀ n w,_:=ref_vint
  unfold intV at q1
  have q2:∀ s w,_:=ref_vtext1
  unfold textV at q2
  have q3:∀ A n c w,_:=ref_vlist1
  unfold listV at q3
  have q4:Hid (∀ (A:Option Addr) (c:Nat) (w:World),Rd w w.heap.size 4 A 3 ([It.int pt,.int key,.text (dgS b)].flatMap It.cells)→_):=Lib.hid (fun A c w h=>ref_encode A 3 c [It.int pt,.int key,.text (dgS b)] w h hok (by omega))
  obtain ⟨cl,hcl⟩:∃ cl,cl=[It.int pt,.int key,.text (dgS b)].flatMap It.cells:=⟨_,rfl⟩
  obtain ⟨En,hEn⟩:∃ En,En=encN [It.int pt,.int key,.text (dgS b)]:=⟨_,rfl⟩
  rw [←hcl,←hEn] at q4
  rw [←hEn] at hl hoE hv
  unfold listV at q4
  have hcl2:cl=[.int .i64 1,.int .i64 pt,.string ⟨#[]⟩,.slice none 0 0,.int .i64 1,.int .i64 key,.string ⟨#[]⟩,.slice none 0 0,.int .i64 2,.int .i64 0,.string (dgS b),.slice none 0 0]:=hcl
  clear hcl hEn hok hA hob h0 hlen ip ik
  have Hcl:=Lib.hid hcl2
  clear hcl2
  go_enter Tryz.func85,Tryz.ntmps85
  go_upto_region 1 with fail
  refine wp_region_schB (f:=13) KS [(0,1),(2,1),(4,1),(5,2),(1,0),(3,0),(6,0),(7,0),(8,0),(9,0),(10,1),(11,1),(12,1),(13,3),(14,3)] ?_
  simp only [pickS,List.getElem?_cons_zero,List.getElem?_cons_succ]
  refine wpSched_t ?_
  refine wpSched_t ?_
  refine wpSched_t ?_
  refine wpSched_r ?_
  refine wpSched_force (fun K hK=>?_)
  go_simp;(first | (go_at_call 89;(with_reducible refine (q1 _ _).mono ?_);rintro e w9 ⟨rfl,b9⟩;have B7:Below W.heap.size W w9:=bCall (by repeat (first | with_reducible exact B7 | with_reducible exact bRefl _ | with_reducible refine bDr ?_ | with_reducible refine bAl ?_ _)) b9) | (go_at_call 88;(with_reducible refine (q2 _ _).mono ?_);rintro e w9 ⟨rfl,b9⟩;have B7:Below W.heap.size W w9:=bCall (by repeat (first | with_reducible exact B7 | with_reducible exact bRefl _ | with_reducible refine bDr ?_ | with_reducible refine bAl ?_ _)) b9) | (go_at_call 125;(with_reducible refine (q3 _ _ _ _).mono ?_);rintro e w8 ⟨rfl,b8⟩;have HR:=((Rd.new w9 [.int .i64 1,.int .i64 pt,.string ⟨#[]⟩,.slice none 0 0,.int .i64 1,.int .i64 key,.string ⟨#[]⟩,.slice none 0 0,.int .i64 2,.int .i64 0,.string (dgS b),.slice none 0 0] 145 4 3 _ rfl rfl).below b8).more b8.size;have B8:Below W.heap.size W w8:=bCall (by repeat (first | with_reducible exact B7 | with_reducible exact bRefl _ | with_reducible refine bDr ?_ | with_reducible refine bAl ?_ _)) b8) | (go_at_call 90;(with_reducible refine (q4.out _ _ _ (Hcl.out.symm▸HR)).mono ?_);rintro e w6 ⟨v6,rfl,b6,A6,c6,rfl,hR6,_,_,hn6⟩;have B6:Below W.heap.size W w6:=bCall B8 b6) | skip)
  refine shut_go hK KS ?_
  clear hK K
  refine wpSched_force (fun K hK=>?_)
  go_simp;(first | (go_at_call 89;(with_reducible refine (q1 _ _).mono ?_);rintro e w9 ⟨rfl,b9⟩;have B7:Below W.heap.size W w9:=bCall (by repeat (first | with_reducible exact B7 | with_reducible exact bRefl _ | with_reducible refine bDr ?_ | with_reducible refine bAl ?_ _)) b9) | (go_at_call 88;(with_reducible refine (q2 _ _).mono ?_);rintro e w9 ⟨rfl,b9⟩;have B7:Below W.heap.size W w9:=bCall (by repeat (first | with_reducible exact B7 | with_reducible exact bRefl _ | with_reducible refine bDr ?_ | with_reducible refine bAl ?_ _)) b9) | (go_at_call 125;(with_reducible refine (q3 _ _ _ _).mono ?_);rintro e w8 ⟨rfl,b8⟩;have HR:=((Rd.new w9 [.int .i64 1,.int .i64 pt,.string ⟨#[]⟩,.slice none 0 0,.int .i64 1,.int .i64 key,.string ⟨#[]⟩,.slice none 0 0,.int .i64 2,.int .i64 0,.string (dgS b),.slice none 0 0] 145 4 3 _ rfl rfl).below b8).more b8.size;have B8:Below W.heap.size W w8:=bCall (by repeat (first | with_reducible exact B7 | with_reducible exact bRefl _ | with_reducible refine bDr ?_ | with_reducible refine bAl ?_ _)) b8) | (go_at_call 90;(with_reducible refine (q4.out _ _ _ (Hcl.out.symm▸HR)).mono ?_);rintro e w6 ⟨v6,rfl,b6,A6,c6,rfl,hR6,_,_,hn6⟩;have B6:Below W.heap.size W w6:=bCall B8 b6) | skip)
  refine shut_go hK KS ?_
  clear hK K
  refine wpSched_force (fun K hK=>?_)
  go_simp;(first | (go_at_call 89;(with_reducible refine (q1 _ _).mono ?_);rintro e w9 ⟨rfl,b9⟩;have B7:Below W.heap.size W w9:=bCall (by repeat (first | with_reducible exact B7 | with_reducible exact bRefl _ | with_reducible refine bDr ?_ | with_reducible refine bAl ?_ _)) b9) | (go_at_call 88;(with_reducible refine (q2 _ _).mono ?_);rintro e w9 ⟨rfl,b9⟩;have B7:Below W.heap.size W w9:=bCall (by repeat (first | with_reducible exact B7 | with_reducible exact bRefl _ | with_reducible refine bDr ?_ | with_reducible refine bAl ?_ _)) b9) | (go_at_call 125;(with_reducible refine (q3 _ _ _ _).mono ?_);rintro e w8 ⟨rfl,b8⟩;have HR:=((Rd.new w9 [.int .i64 1,.int .i64 pt,.string ⟨#[]⟩,.slice none 0 0,.int .i64 1,.int .i64 key,.string ⟨#[]⟩,.slice none 0 0,.int .i64 2,.int .i64 0,.string (dgS b),.slice none 0 0] 145 4 3 _ rfl rfl).below b8).more b8.size;have B8:Below W.heap.size W w8:=bCall (by repeat (first | with_reducible exact B7 | with_reducible exact bRefl _ | with_reducible refine bDr ?_ | with_reducible refine bAl ?_ _)) b8) | (go_at_call 90;(with_reducible refine (q4.out _ _ _ (Hcl.out.symm▸HR)).mono ?_);rintro e w6 ⟨v6,rfl,b6,A6,c6,rfl,hR6,_,_,hn6⟩;have B6:Below W.heap.size W w6:=bCall B8 b6) | skip)
  refine shut_go hK KS ?_
  clear hK K
  refine wpSched_force (fun K hK=>?_)
  go_simp;(first | (go_at_call 89;(with_reducible refine (q1 _ _).mono ?_);rintro e w9 ⟨rfl,b9⟩;have B7:Below W.heap.size W w9:=bCall (by repeat (first | with_reducible exact B7 | with_reducible exact bRefl _ | with_reducible refine bDr ?_ | with_reducible refine bAl ?_ _)) b9) | (go_at_call 88;(with_reducible refine (q2 _ _).mono ?_);rintro e w9 ⟨rfl,b9⟩;have B7:Below W.heap.size W w9:=bCall (by repeat (first | with_reducible exact B7 | with_reducible exact bRefl _ | with_reducible refine bDr ?_ | with_reducible refine bAl ?_ _)) b9) | (go_at_call 125;(with_reducible refine (q3 _ _ _ _).mono ?_);rintro e w8 ⟨rfl,b8⟩;have HR:=((Rd.new w9 [.int .i64 1,.int .i64 pt,.string ⟨#[]⟩,.slice none 0 0,.int .i64 1,.int .i64 key,.string ⟨#[]⟩,.slice none 0 0,.int .i64 2,.int .i64 0,.string (dgS b),.slice none 0 0] 145 4 3 _ rfl rfl).below b8).more b8.size;have B8:Below W.heap.size W w8:=bCall (by repeat (first | with_reducible exact B7 | with_reducible exact bRefl _ | with_reducible refine bDr ?_ | with_reducible refine bAl ?_ _)) b8) | (go_at_call 90;(with_reducible refine (q4.out _ _ _ (Hcl.out.symm▸HR)).mono ?_);rintro e w6 ⟨v6,rfl,b6,A6,c6,rfl,hR6,_,_,hn6⟩;have B6:Below W.heap.size W w6:=bCall B8 b6) | skip)
  refine shut_go hK KS ?_
  clear hK K
  refine wpSched_force (fun K hK=>?_)
  go_simp;(first | (go_at_call 89;(with_reducible refine (q1 _ _).mono ?_);rintro e w9 ⟨rfl,b9⟩;have B7:Below W.heap.size W w9:=bCall (by repeat (first | with_reducible exact B7 | with_reducible exact bRefl _ | with_reducible refine bDr ?_ | with_reducible refine bAl ?_ _)) b9) | (go_at_call 88;(with_reducible refine (q2 _ _).mono ?_);rintro e w9 ⟨rfl,b9⟩;have B7:Below W.heap.size W w9:=bCall (by repeat (first | with_reducible exact B7 | with_reducible exact bRefl _ | with_reducible refine bDr ?_ | with_reducible refine bAl ?_ _)) b9) | (go_at_call 125;(with_reducible refine (q3 _ _ _ _).mono ?_);rintro e w8 ⟨rfl,b8⟩;have HR:=((Rd.new w9 [.int .i64 1,.int .i64 pt,.string ⟨#[]⟩,.slice none 0 0,.int .i64 1,.int .i64 key,.string ⟨#[]⟩,.slice none 0 0,.int .i64 2,.int .i64 0,.string (dgS b),.slice none 0 0] 145 4 3 _ rfl rfl).below b8).more b8.size;have B8:Below W.heap.size W w8:=bCall (by repeat (first | with_reducible exact B7 | with_reducible exact bRefl _ | with_reducible refine bDr ?_ | with_reducible refine bAl ?_ _)) b8) | (go_at_call 90;(with_reducible refine (q4.out _ _ _ (Hcl.out.symm▸HR)).mono ?_);rintro e w6 ⟨v6,rfl,b6,A6,c6,rfl,hR6,_,_,hn6⟩;have B6:Below W.heap.size W w6:=bCall B8 b6) | skip)
  refine shut_go hK KS ?_
  clear hK K
  refine wpSched_force (fun K hK=>?_)
  go_simp;(first | (go_at_call 89;(with_reducible refine (q1 _ _).mono ?_);rintro e w9 ⟨rfl,b9⟩;have B7:Below W.heap.size W w9:=bCall (by repeat (first | with_reducible exact B7 | with_reducible exact bRefl _ | with_reducible refine bDr ?_ | with_reducible refine bAl ?_ _)) b9) | (go_at_call 88;(with_reducible refine (q2 _ _).mono ?_);rintro e w9 ⟨rfl,b9⟩;have B7:Below W.heap.size W w9:=bCall (by repeat (first | with_reducible exact B7 | with_reducible exact bRefl _ | with_reducible refine bDr ?_ | with_reducible refine bAl ?_ _)) b9) | (go_at_call 125;(with_reducible refine (q3 _ _ _ _).mono ?_);rintro e w8 ⟨rfl,b8⟩;have HR:=((Rd.new w9 [.int .i64 1,.int .i64 pt,.string ⟨#[]⟩,.slice none 0 0,.int .i64 1,.int .i64 key,.string ⟨#[]⟩,.slice none 0 0,.int .i64 2,.int .i64 0,.string (dgS b),.slice none 0 0] 145 4 3 _ rfl rfl).below b8).more b8.size;have B8:Below W.heap.size W w8:=bCall (by repeat (first | with_reducible exact B7 | with_reducible exact bRefl _ | with_reducible refine bDr ?_ | with_reducible refine bAl ?_ _)) b8) | (go_at_call 90;(with_reducible refine (q4.out _ _ _ (Hcl.out.symm▸HR)).mono ?_);rintro e w6 ⟨v6,rfl,b6,A6,c6,rfl,hR6,_,_,hn6⟩;have B6:Below W.heap.size W w6:=bCall B8 b6) | skip)
  refine shut_go hK KS ?_
  clear hK K
  refine wpSched_t ?_
  refine wpSched_t ?_
  refine wpSched_t ?_
  refine wpSched_last ?_
  first | simp only [List.map_nil] | simp only [List.map_cons,List.map_nil]
  go_wp2_with fail
  refine NoPanic.normal ?_
  go_wp2_with fail
  have q5:=ref_hash sgS A6 En.length c6 En w6 hR6 hn6 hoE (by decide) (Nat.le_trans hl (by decide))
  rw [←hv.out,←hV.out] at q5
  unfold sgS at q5
  (with_reducible refine q5.mono ?_)
  rintro e w5 ⟨rfl,b5⟩
  have hb5:=bCall B6 b5
  clear q5
  go_wp2_with fail
  go_ret
  exact ⟨rfl,hb5⟩
theorem ref_verify11 (key:Int) (A:Option Addr) (c:Nat) (b:List Nat) (E S:Int) (W:World) (ik:inI key) (hA:Rd W W.heap.size 1 A b.length (byts b)) (hob:okB b) (h0:0<b.length) (hlen:b.length≤1000000) :
    Calls Tryz.prog 41 #[.int .i64 key,.slice A b.length c,.agg #[.int .i64 E,.int .i64 S]] W (Ret (.bool (sgB key b E S)) W):=by
  have BE:=Blk.new W 45 #[.int .i64 E,.int .i64 S] _ rfl
  have hb:=bAl (bRefl W) (.cells #[.int .i64 E,.int .i64 S] 45)
  have q1:=ref_valid key
  obtain ⟨V,hV⟩:∃ V,Hid (V=sgB key b E S):=⟨_,Lib.hid rfl⟩
  rw [←hV.out]
  obtain ⟨c0,c1⟩:=pair_cells BE
  go_enter Tryz.func41,Tryz.ntmps41
  go_upto_region 1 with fail
  generalize W.alloc (.cells #[.int .i64 E,.int .i64 S] 45)=w1 at *
  cases hk:validB key with
  | false =>
    rw [hk] at q1
    have e:Hid (V=false):=Lib.hid (by rw [hV.out];exact sgB_key hk)
    go_wp2_with fail
    (with_reducible refine (q1 _).mono ?_)
    rintro e w2 ⟨rfl,rfl⟩
    go_wp2_with fail
    go_ret
    exact ⟨ret_bool (by rw [e.out]),hb⟩
  | true =>
  rw [hk] at q1
  by_cases ho:(ordB E&&ordB S)=true
  case neg =>
    rw [Bool.not_eq_true] at ho
    have e:Hid (V=false):=Lib.hid (by rw [hV.out];exact sgB_no ho)
    have hh:=ordB_no ho
    clear ho hk
    by_cases h1:E<0
    case pos =>
      go_wp2_with fail
      (with_reducible refine (q1 _).mono ?_)
      rintro e w2 ⟨rfl,rfl⟩
      go_wp2_with fail
      go_ret
      exact ⟨ret_bool (by rw [e.out]),hb⟩
    by_cases h2:1073741789≤E
    case pos =>
      go_wp2_with fail
      (with_reducible refine (q1 _).mono ?_)
      rintro e w2 ⟨rfl,rfl⟩
      go_wp2_with fail
      go_ret
      exact ⟨ret_bool (by rw [e.out]),hb⟩
    by_cases h3:S<0
    case pos =>
      go_wp2_with fail
      (with_reducible refine (q1 _).mono ?_)
      rintro e w2 ⟨rfl,rfl⟩
      go_wp2_with fail
      go_ret
      exact ⟨ret_bool (by rw [e.out]),hb⟩
    have h4:1073741789≤S:=by omega
    clear hh
    go_wp2_with fail
    (with_reducible refine (q1 _).mono ?_)
    rintro e w2 ⟨rfl,rfl⟩
    go_wp2_with fail
    go_ret
    exact ⟨ret_bool (by rw [e.out]),hb⟩
  obtain ⟨⟨e1,e2⟩,e3,e4⟩:=ordB_yes ho
  have hV2:Hid (V=decide (E=(sgV (ptV key E S) key b:Nat))):=Lib.hid (by rw [hV.out];exact sgB_yes ho hk)
  clear hV ho hk
  have i1:¬E<0:=by omega
  have i2:¬1073741789≤E:=by omega
  have i3:¬S<0:=by omega
  have i4:¬1073741789≤S:=by omega
  have q2:Hid (∀ w,Calls Tryz.prog 86 #[.int .i64 key,.agg #[.int .i64 E,.int .i64 S]] w (Ret (.int .i64 (ptV key E S)) w)):=Lib.hid (fun w=>ref_point key E S ⟨e1,e3⟩ w)
  have iP:inI (ptV key E S):=by have:=mulV_in (powV 4 S) (powV key (-E));unfold ptV;exact ⟨by omega,by omega⟩
  have q3:Hid (∀ w,Below W.heap.size W w→Calls Tryz.prog 85 #[.int .i64 (ptV key E S),.int .i64 key,.slice A b.length c] w (Ret (.int .i64 (sgV (ptV key E S) key b:Nat)) w)):=Lib.hid (fun w h=>ref_hash11 (ptV key E S) key A c b w iP ik ((hA.below h).more h.size) hob h0 hlen)
  generalize sgV (ptV key E S) key b=G at *
  generalize ptV key E S=P at *
  clear e1 e2 e3 e4
  go_wp2_with fail
  (with_reducible refine (q1 _).mono ?_)
  rintro e w2 ⟨rfl,rfl⟩
  go_upto_region 3 with fail
  clear i1 i2 i3 i4 q1
  have KS:Hid (∀ w',Below w1.heap.size w1 w'→w'.cell? ⟨W.heap.size,0,none⟩=some (.int .i64 E)∧w'.cell? ⟨W.heap.size,1,none⟩=some (.int .i64 S)):=Lib.hid (fun w' h=>pair_cells (BE.below h BE.lt))
  refine wp_region_schB (f:=9) KS [(0,1),(1,2),(2,1),(3,2),(5,1),(6,1),(4,0),(7,0),(8,1),(9,3)] ?_
  simp only [pickS,List.getElem?_cons_zero,List.getElem?_cons_succ]
  refine wpSched_t ?_
  refine wpSched_r ?_
  refine wpSched_t ?_
  refine wpSched_r ?_
  refine wpSched_t ?_
  refine wpSched_t ?_
  refine wpSched_force (fun K hK=>?_)
  go_simp;(first | (go_at_call 86;(with_reducible refine (q2.out _).mono ?_);rintro e w7 ⟨rfl,b7⟩;have B7:Below w1.heap.size w1 w7:=bCall (by repeat (first | with_reducible exact bRefl _ | with_reducible refine bDr ?_)) b7) | (go_at_call 85;(with_reducible refine (q3.out _ (bCall hb B7)).mono ?_);rintro e w8 ⟨rfl,b8⟩;have B8:Below w1.heap.size w1 w8:=bCall B7 b8) | skip)
  refine shut_go hK KS ?_
  clear hK K
  refine wpSched_force (fun K hK=>?_)
  go_simp;(first | (go_at_call 86;(with_reducible refine (q2.out _).mono ?_);rintro e w7 ⟨rfl,b7⟩;have B7:Below w1.heap.size w1 w7:=bCall (by repeat (first | with_reducible exact bRefl _ | with_reducible refine bDr ?_)) b7) | (go_at_call 85;(with_reducible refine (q3.out _ (bCall hb B7)).mono ?_);rintro e w8 ⟨rfl,b8⟩;have B8:Below w1.heap.size w1 w8:=bCall B7 b8) | skip)
  refine shut_go hK KS ?_
  clear hK K
  refine wpSched_t ?_
  refine wpSched_last ?_
  first | simp only [List.map_nil] | simp only [List.map_cons,List.map_nil]
  go_wp2_with fail
  refine NoPanic.normal ?_
  go_wp2_with fail
  go_ret
  exact ⟨ret_bool (by rw [hV2.out,Bool.eq_iff_iff];simp),bCall hb B8⟩
end Go.Proofs.YtgkpomdegomgiaaGreatDoor

/- The reference of handover: Text, Check; walked. -/
import Derived.Test.YtoeobcmmafncmaaGreatDoorSbj
import Derived.Test.YtoeobcmmafncmaaGreatDoorSbg
import Derived.Test.YtoeobcmmafncmaaGreatDoorSbe
import Derived.Test.YtoeobcmmafncmaaGreatDoorSaw
set_option maxRecDepth 1000000
set_option maxHeartbeats 16000000
namespace Go.Proofs.YtoeobcmmafncmaaGreatDoor
open Go.RowKit
theorem ownsRow_setN {w:World} {base:Nat} {e:TypeId} {size n:Nat} {v:Value} {xs:List Value} (h:w.ownsRow base e size v n xs) {p:Addr} (hp:v.ownBlock≠some p.block) (u:Value):(w.setCell p u).ownsRow base e size v n xs:=by
 refine h.kept (row:=some p.block) ⟨rfl,rfl,rfl,by simp [World.setCell],fun k _ hk=>Below.heap_setCell _ _ _ k (fun e=>hk (by rw [e]))⟩ ?_
 cases hv:v.ownBlock with
 | none=>exact .inl rfl
 | some k=>exact .inr (by rw [←hv];exact hp)
theorem hd_root {w:World} {g:Nat} {h:Hd} (B:Blk w g 53 h.cl.toArray) (ho:h.ok):(convert 123 9 (.slice (some ⟨g,7,none⟩) 32 32)).run Tryz.prog w = .ok (.string (dgS h.root)) w:=by
 have hr:=ho.2.2.2.2.2.2.2.1
 refine convert_row ⟨by rw [byts_length,hr.1],fun _=>⟨g,7,rfl,B.lt,fun j u hu=>?_⟩⟩ hr.1 hr.2
 have hj:j<32:=by have:=(List.getElem?_eq_some_iff.1 hu).1;rwa [byts_length,hr.1] at this
 rw [B.cell,List.getElem?_toArray,(Hd.cells ho).2.2.2.2.2.2.2.1 j hj]
 exact hu
theorem hd_its_ok {h:Hd} (ho:h.ok):∀ x∈h.its,x.ok:=by
 obtain ⟨h1,h2,h3,h4,h5,h6,h7,⟨h8,_⟩,h9,_⟩:=ho
 intro x hx
 simp only [Hd.its,List.mem_cons,List.not_mem_nil,or_false] at hx
 rcases hx with rfl | rfl | rfl | rfl | rfl | rfl | rfl | rfl | rfl
 ·exact h1
 ·exact h2
 ·exact h3
 ·exact h4
 ·exact h5
 ·exact h6
 ·exact h7
 ·show (dgS h.root).size≤1000000;rw [dgS_size,h8];omega
 ·exact h9
theorem ref_text48 (h:Hd) (ho:h.ok) (W:World):Calls Tryz.prog 77 #[.agg h.cl.toArray] W (RetSl 1 h.text.length (byts h.text) W):=by
 obtain ⟨cs,hcs⟩:∃ cs,h.cl.toArray=cs:=⟨_,rfl⟩
 have BH:=Blk.new W 53 cs _ rfl
 have hb:=bAl (bRefl W) (.cells cs 53)
 rw [hcs]
 obtain ⟨c0,c1,c2,c3,c4,c5,c6,c39,c40,c41⟩:=HdAt.of BH hcs.symm ho
 go_enter Tryz.func77,Tryz.ntmps77
 go_upto_region 1 with fail
 generalize W.alloc (.cells cs 53)=w1 at *
 have hb1:=bAl hb (.cells #[.int .i64 h.line,.int .i64 h.at_,.int .i64 h.arrive,.int .i64 h.leg,.int .i64 h.from_,.int .i64 h.to_,.int .i64 h.many] 3)
 have BH1:=BH.alloc (.cells #[.int .i64 h.line,.int .i64 h.at_,.int .i64 h.arrive,.int .i64 h.leg,.int .i64 h.from_,.int .i64 h.to_,.int .i64 h.many] 3)
 have q:=ref_intsO (some ⟨w1.heap.size,0,none⟩) 7 7 [h.line,h.at_,h.arrive,h.leg,h.from_,h.to_,h.many] (w1.alloc (.cells #[.int .i64 h.line,.int .i64 h.at_,.int .i64 h.arrive,.int .i64 h.leg,.int .i64 h.from_,.int .i64 h.to_,.int .i64 h.many] 3)) (Rd.of_blk (Blk.new w1 3 _ _ rfl) rfl rfl) (by omega)
 go_wp2_with fail
 (with_reducible refine q.mono ?_)
 rintro e w2 ⟨A2,k2,rfl,b2,hown⟩
 have hb2:=bCall hb1 b2
 have BH2:=BH1.below b2 BH1.lt
 have hbs:W.heap.size≤(w1.alloc (.cells #[.int .i64 h.line,.int .i64 h.at_,.int .i64 h.arrive,.int .i64 h.leg,.int .i64 h.from_,.int .i64 h.to_,.int .i64 h.many] 3)).heap.size:=hb1.size
 have hbs2:=b2.size
 clear q c0 c1 c2 c3 c4 c5 c6 c39 c40 c41 b2 hb hb1 BH BH1
 generalize (w1.alloc (.cells #[.int .i64 h.line,.int .i64 h.at_,.int .i64 h.arrive,.int .i64 h.leg,.int .i64 h.from_,.int .i64 h.to_,.int .i64 h.many] 3)).heap.size=base at *
 unfold listV
 simp only [List.length_map,List.length_cons,List.length_nil,Nat.reduceAdd] at hown ⊢
 go_upto_region 2 with fail
 have hne:(Value.slice A2 7 k2).ownBlock≠some w2.heap.size:=fun e=>by have:=(hown.lt _ e).2;omega
 have BV:=Blk.new w2 162 #[.int .i64 3,.int .i64 0,.string ⟨#[]⟩,.slice A2 7 k2] _ rfl
 have BH3:=BH2.alloc (.cells #[.int .i64 3,.int .i64 0,.string ⟨#[]⟩,.slice A2 7 k2] 162)
 have hb3:=bAl hb2 (.cells #[.int .i64 3,.int .i64 0,.string ⟨#[]⟩,.slice A2 7 k2] 162)
 have hown3:=ownsRow_keep hown (bAl (bRefl w2) (.cells #[.int .i64 3,.int .i64 0,.string ⟨#[]⟩,.slice A2 7 k2] 162))
 have hv2:W.heap.size≤w2.heap.size:=hb2.size
 clear BH2 hb2 hown
 generalize w2.alloc (.cells #[.int .i64 3,.int .i64 0,.string ⟨#[]⟩,.slice A2 7 k2] 162)=w3 at *
 generalize w2.heap.size=vb at *
 have hvl:vb<w3.heap.size:=BV.lt
 have KS:Hid (∀ w',Below w3.heap.size w3 w'→w'.cell? ⟨vb,3,none⟩=some (.slice A2 7 k2)∧(convert 123 9 (.slice (some ⟨W.heap.size,7,none⟩) 32 32)).run Tryz.prog w' = .ok (.string (dgS h.root)) w'∧w'.cell? ⟨W.heap.size,39,none⟩=some (.int .i64 h.time)):=Lib.hid (fun w' b=>⟨(BV.below b BV.lt).cell 3,hd_root (hcs▸(BH3.below b BH3.lt)) ho,(HdAt.of (BH3.below b BH3.lt) hcs.symm ho).c39⟩)
 have q1:∀ n w,_:=ref_vint
 unfold intV at q1
 have q2:∀ s w,_:=ref_vtext1
 unfold textV at q2
 have Hcs:=Lib.hid hcs
 clear hcs
 refine wp_region_schB (f:=10) KS [(0,1),(1,2),(2,1),(3,1),(4,2),(6,1),(7,2),(5,0),(8,0),(9,0),(10,3),(11,3),(12,3)] ?_
 simp only [pickS,List.getElem?_cons_zero,List.getElem?_cons_succ]
 refine wpSched_t ?_
 refine wpSched_r ?_
 iterate 2 refine wpSched_t ?_
 refine wpSched_r ?_
 refine wpSched_t ?_
 refine wpSched_r ?_
 refine wpSched_force (fun K hK=>?_)
 go_simp;(first | (go_at_call 117;(with_reducible refine (q1 _ _).mono ?_);rintro e w9 ⟨rfl,b9⟩;have B7:Below w3.heap.size w3 w9:=bCall (by repeat (first | with_reducible exact B7 | with_reducible exact bRefl _ | with_reducible refine bDr ?_ | with_reducible refine bAl ?_ _)) b9) | (go_at_call 116;(with_reducible refine (q2 _ _).mono ?_);rintro e w9 ⟨rfl,b9⟩;have B7:Below w3.heap.size w3 w9:=bCall (by repeat (first | with_reducible exact B7 | with_reducible exact bRefl _ | with_reducible refine bDr ?_ | with_reducible refine bAl ?_ _)) b9) | skip)
 refine shut_go hK KS ?_
 clear hK K
 refine wpSched_force (fun K hK=>?_)
 go_simp;(first | (go_at_call 117;(with_reducible refine (q1 _ _).mono ?_);rintro e w9 ⟨rfl,b9⟩;have B7:Below w3.heap.size w3 w9:=bCall (by repeat (first | with_reducible exact B7 | with_reducible exact bRefl _ | with_reducible refine bDr ?_ | with_reducible refine bAl ?_ _)) b9) | (go_at_call 116;(with_reducible refine (q2 _ _).mono ?_);rintro e w9 ⟨rfl,b9⟩;have B7:Below w3.heap.size w3 w9:=bCall (by repeat (first | with_reducible exact B7 | with_reducible exact bRefl _ | with_reducible refine bDr ?_ | with_reducible refine bAl ?_ _)) b9) | skip)
 refine shut_go hK KS ?_
 clear hK K
 refine wpSched_force (fun K hK=>?_)
 go_simp;(first | (go_at_call 117;(with_reducible refine (q1 _ _).mono ?_);rintro e w9 ⟨rfl,b9⟩;have B7:Below w3.heap.size w3 w9:=bCall (by repeat (first | with_reducible exact B7 | with_reducible exact bRefl _ | with_reducible refine bDr ?_ | with_reducible refine bAl ?_ _)) b9) | (go_at_call 116;(with_reducible refine (q2 _ _).mono ?_);rintro e w9 ⟨rfl,b9⟩;have B7:Below w3.heap.size w3 w9:=bCall (by repeat (first | with_reducible exact B7 | with_reducible exact bRefl _ | with_reducible refine bDr ?_ | with_reducible refine bAl ?_ _)) b9) | skip)
 refine shut_go hK KS ?_
 clear hK K
 refine wpSched_last ?_
 first | simp only [List.map_nil] | simp only [List.map_cons,List.map_nil]
 have b10:=bAl B7 (.cells #[.int .i64 2,.int .i64 0,.string (dgS h.root),.slice none 0 0,.int .i64 1,.int .i64 h.time,.string ⟨#[]⟩,.slice none 0 0] 162)
 have hown9:=ownsRow_keep hown3 b10
 have BV9:=BV.below b10 BV.lt
 have hb9:=bCall hb3 b10
 have HR:=Rd.new w9 [.int .i64 2,.int .i64 0,.string (dgS h.root),.slice none 0 0,.int .i64 1,.int .i64 h.time,.string ⟨#[]⟩,.slice none 0 0] 162 4 2 _ rfl rfl
 have hs9:=b10.size
 clear KS q1 q2 B7 b10 BV BH3 hb3 hown3
 refine wpList_appendG (.tmp 26) (.tmp 34) 160 base 162 (.agg #[.int .i64 0,.int .i64 0,.string ⟨#[]⟩,.slice none 0 0]) 4 56 (.slice A2 7 k2) 7 _ (some ⟨w9.heap.size,0,none⟩) 2 2 _ [.int .i64 2,.int .i64 0,.string (dgS h.root),.slice none 0 0,.int .i64 1,.int .i64 h.time,.string ⟨#[]⟩,.slice none 0 0] (by rfl) (by rfl) Tryz.underlying160 value_info rfl (by omega) (by rfl) hown9 (by rfl) HR (by intro h;cases h) (by intro u hu;simp only [List.mem_cons,List.not_mem_nil,or_false] at hu;rcases hu with rfl | rfl | rfl | rfl | rfl | rfl | rfl | rfl <;> rfl) (by unfold maxLen;omega) (by omega) (by omega) ?_
 intro v' w' hown4 hg4
 obtain ⟨A5,k5,rfl,-⟩:=Sl.of_own hown4
 have hv9:vb<(w9.alloc (.cells #[.int .i64 2,.int .i64 0,.string (dgS h.root),.slice none 0 0,.int .i64 1,.int .i64 h.time,.string ⟨#[]⟩,.slice none 0 0] 162)).heap.size:=BV9.lt
 have BV4:Blk w' vb 162 #[.int .i64 3,.int .i64 0,.string ⟨#[]⟩,.slice A2 7 k2]:=(hg4.other hv9 (fun e=>hne e.symm)).trans BV9
 have hne4:(Value.slice A5 (7+2) k5).ownBlock≠some vb:=by
  rcases hg4.2 with e | ⟨g,e,hg⟩
  ·rw [e];exact hne
  ·rw [e];intro e2;injection e2 with e2;omega
 have hb4:=hb9.trans ((hg4.below hown9 (by omega)).mono (by omega))
 have c3:=val_cell BV4
 have z3:=BV4.frozen 3
 have hown5:=ownsRow_setN hown4 (p:=⟨vb,3,none⟩) hne4 (.slice A5 (7+2) k5)
 have BV5:=BV4.set_ 3 (.slice A5 (7+2) k5)
 have hb5:=bSet hb4 (p:=⟨vb,3,none⟩) hv2 (.slice A5 (7+2) k5)
 clear hg4 hown9 BV9 hb9 HR hown4 BV4 hne4 hne hb4
 go_wp2_with fail
 refine NoPanic.normal ?_
 go_upto_region 3 with fail
 generalize w'.setCell ⟨vb,3,none⟩ (.slice A5 (7+2) k5)=w5 at *
 obtain ⟨A6,k6,hv6,hR5,_⟩:=Sl.of_own hown5
 injection hv6 with hA6 _ hk6
 subst hA6;subst hk6
 obtain ⟨m0,m1,m2,m3⟩:=box_cells BV5
 have hits:Hid (encN h.its=h.text):=Lib.hid rfl
 have q:=ref_encode A5 9 k5 h.its w5 hR5 (hd_its_ok ho) (by omega)
 rw [hits.out] at q
 unfold listV at q
 clear c3 z3 hown5 BV5 hR5
 go_wp2_with fail
 (with_reducible refine q.mono ?_)
 rintro e w6 ⟨v6,rfl,b6,hS⟩
 have hb6:=bCall hb5 b6
 clear q m0 m1 m2 m3
 go_wp2_with fail
 go_ret
 exact ⟨_,rfl,hb6,hS⟩
theorem ref_check48 (key:Int) (h:Hd) (ho:h.ok) (ik:inI key) (W:World):Calls Tryz.prog 41 #[.int .i64 key,.agg h.cl.toArray] W (Ret (.bool (h.signed key)) W):=by
 have q1:=Lib.hid (fun w=>ref_formed48 h ho w)
 have q2:=Lib.hid (fun w=>ref_text48 h ho w)
 have hlen:=hd_len ho
 have q3:=Lib.hid (fun (A:Option Addr) (c:Nat) (w:World) (hR:Rd w w.heap.size 1 A h.text.length (byts h.text))=>ref_verify11 key A c h.text h.e h.s w ik hR (okB_encN _) (encN_pos _) hlen)
 obtain ⟨V,hV⟩:∃ V,Hid (V=sgB key h.text h.e h.s):=⟨_,Lib.hid rfl⟩
 have hS:h.signed key=(h.formed&&V):=by rw [hV.out];rfl
 rw [hS]
 rw [←hV.out] at q3
 obtain ⟨cs,hcs⟩:∃ cs,h.cl.toArray=cs:=⟨_,rfl⟩
 have hsz:cs.size=42:=by rw [←hcs,List.size_toArray,Hd.cl_length ho]
 rw [hcs] at q1 q2
 have BH:=Blk.new W 53 cs _ rfl
 have hb:=bAl (bRefl W) (.cells cs 53)
 have KS:Hid (∀ w',Below (W.alloc (.cells cs 53)).heap.size (W.alloc (.cells cs 53)) w'→(Instr.loadAt 53 (.pointer (some ⟨W.heap.size,0,none⟩))).run Tryz.prog w' = .ok (.agg cs) w'∧w'.cell? ⟨W.heap.size,40,none⟩=some (.int .i64 h.e)∧w'.cell? ⟨W.heap.size,41,none⟩=some (.int .i64 h.s)):=Lib.hid (fun w' b=>by
  have B:=BH.below b BH.lt
  have H:=HdAt.of B hcs.symm ho
  exact ⟨load_blk B Tryz.underlying53 rfl (by rw [hsz];exact hand_info),H.c40,H.c41⟩)
 rw [hcs]
 clear hS hlen hV hcs hsz BH
 go_enter Tryz.func41,Tryz.ntmps41
 go_upto_region 1 with fail
 generalize W.alloc (.cells cs 53)=w1 at *
 cases hf:h.formed
 ·rw [hf] at q1
  have Hf:=Lib.hid hf
  clear hf
  refine wp_region_schB (f:=10) KS [(0,2),(1,0),(2,1),(3,1),(4,1),(6,1),(7,1),(5,1),(8,1),(9,1),(10,3)] ?_
  simp only [pickS,List.getElem?_cons_zero,List.getElem?_cons_succ]
  refine wpSched_r (v:=?v1) (hv:=?h1) ?_;case h1=>(intro w hSw;(first | refine (exec_load rfl rfl hSw).trans ?_ | refine (exec_load rfl rfl hSw.1).trans ?_ | refine (exec_load rfl rfl hSw.2.1).trans ?_ | refine (exec_load rfl rfl hSw.2.2.1).trans ?_ | refine (exec_load rfl rfl hSw.2).trans ?_ | refine (exec_load rfl rfl hSw.2.2).trans ?_);with_reducible rfl)
  refine wpSched_force (fun K hK=>?_)
  go_simp;(first | (go_at_call 75;(with_reducible refine (q1.out _).mono ?_);rintro e w7 ⟨rfl,b7⟩;have B7:Below w1.heap.size w1 w7:=bCall (by repeat (first | with_reducible exact bRefl _ | with_reducible refine bDr ?_)) b7) | skip)
  refine shut_go hK KS ?_
  clear hK K
  refine wpSched_t ?_
  iterate 6 refine wpSched_p ?_
  refine wpSched_t ?_
  refine wpSched_last ?_
  first | simp only [List.map_nil] | simp only [List.map_cons,List.map_nil]
  go_wp2_with fail
  refine NoPanic.normal ?_
  go_wp2_with fail
  go_ret
  exact ⟨ret_bool (by rw [Hf.out];rfl),bCall hb B7⟩
 ·rw [hf] at q1
  have Hf:=Lib.hid hf
  clear hf
  refine wp_region_schB (f:=10) KS [(0,2),(1,0),(2,1),(3,1),(4,2),(6,1),(7,2),(5,0),(8,0),(9,1),(10,3)] ?_
  simp only [pickS,List.getElem?_cons_zero,List.getElem?_cons_succ]
  refine wpSched_r (v:=?v2) (hv:=?h2) ?_;case h2=>(intro w hSw;(first | refine (exec_load rfl rfl hSw).trans ?_ | refine (exec_load rfl rfl hSw.1).trans ?_ | refine (exec_load rfl rfl hSw.2.1).trans ?_ | refine (exec_load rfl rfl hSw.2.2.1).trans ?_ | refine (exec_load rfl rfl hSw.2).trans ?_ | refine (exec_load rfl rfl hSw.2.2).trans ?_);with_reducible rfl)
  refine wpSched_force (fun K hK=>?_)
  go_simp;(first | (go_at_call 75;(with_reducible refine (q1.out _).mono ?_);rintro e w7 ⟨rfl,b7⟩;have B7:Below w1.heap.size w1 w7:=bCall (by repeat (first | with_reducible exact bRefl _ | with_reducible refine bDr ?_)) b7) | (go_at_call 77;(with_reducible refine (q2.out _).mono ?_);rintro e w8 ⟨v8,rfl,b8,A8,c8,rfl,hR8,_⟩;have B8:Below w1.heap.size w1 w8:=bCall B7 b8) | (go_at_call 76;(with_reducible refine (q3.out _ _ _ hR8).mono ?_);rintro e w9 ⟨rfl,b9⟩;have B9:Below w1.heap.size w1 w9:=bCall B8 b9) | skip)
  refine shut_go hK KS ?_
  clear hK K
  iterate 2 refine wpSched_t ?_
  refine wpSched_r (v:=?v3) (hv:=?h3) ?_;case h3=>(intro w hSw;(first | refine (exec_load rfl rfl hSw).trans ?_ | refine (exec_load rfl rfl hSw.1).trans ?_ | refine (exec_load rfl rfl hSw.2.1).trans ?_ | refine (exec_load rfl rfl hSw.2.2.1).trans ?_ | refine (exec_load rfl rfl hSw.2).trans ?_ | refine (exec_load rfl rfl hSw.2.2).trans ?_);with_reducible rfl)
  refine wpSched_t ?_
  refine wpSched_r ?_
  refine wpSched_force (fun K hK=>?_)
  go_simp;(first | (go_at_call 75;(with_reducible refine (q1.out _).mono ?_);rintro e w7 ⟨rfl,b7⟩;have B7:Below w1.heap.size w1 w7:=bCall (by repeat (first | with_reducible exact bRefl _ | with_reducible refine bDr ?_)) b7) | (go_at_call 77;(with_reducible refine (q2.out _).mono ?_);rintro e w8 ⟨v8,rfl,b8,A8,c8,rfl,hR8,_⟩;have B8:Below w1.heap.size w1 w8:=bCall B7 b8) | (go_at_call 76;(with_reducible refine (q3.out _ _ _ hR8).mono ?_);rintro e w9 ⟨rfl,b9⟩;have B9:Below w1.heap.size w1 w9:=bCall B8 b9) | skip)
  refine shut_go hK KS ?_
  clear hK K
  refine wpSched_force (fun K hK=>?_)
  go_simp;(first | (go_at_call 75;(with_reducible refine (q1.out _).mono ?_);rintro e w7 ⟨rfl,b7⟩;have B7:Below w1.heap.size w1 w7:=bCall (by repeat (first | with_reducible exact bRefl _ | with_reducible refine bDr ?_)) b7) | (go_at_call 77;(with_reducible refine (q2.out _).mono ?_);rintro e w8 ⟨v8,rfl,b8,A8,c8,rfl,hR8,_⟩;have B8:Below w1.heap.size w1 w8:=bCall B7 b8) | (go_at_call 76;(with_reducible refine (q3.out _ _ _ hR8).mono ?_);rintro e w9 ⟨rfl,b9⟩;have B9:Below w1.heap.size w1 w9:=bCall B8 b9) | skip)
  refine shut_go hK KS ?_
  clear hK K
  refine wpSched_t ?_
  refine wpSched_last ?_
  first | simp only [List.map_nil] | simp only [List.map_cons,List.map_nil]
  go_wp2_with fail
  refine NoPanic.normal ?_
  go_wp2_with fail
  go_ret
  exact ⟨ret_bool (by rw [Hf.out];rfl),bCall hb B9⟩
theorem ref_text07 (s:ByteArray) (A:Option Addr) (c:Nat) (l:List Nat) (W:World) (hA:Rd W W.heap.size 1 A l.length (byts l)) (hnil:A=none→l.length=0∧c=0) (hs:s.size≤1000000) (hn:l.length≤70368744177600) :
  Calls Tryz.prog 146 #[.string s,.slice A l.length c] W (RetSl 1 (shaN (sb s)++l).length (byts (shaN (sb s)++l)) W):=by
 go_enter Tryz.func146,Tryz.ntmps146
 have hcv:=fun (w:World)=>Lib.run_convert_string_bytes (P:=Tryz.prog) w 9 123 5 s Tryz.underlying9 Tryz.underlying123 Tryz.underlying5
 go_wp2_with fail
 refine (ref_sum _ _ _ (sb s) _ (by exact rd_bytes W _ s _ rfl) (by intro h;cases h) (sb_ok s) (by omega)).mono ?_
 rintro e w2 ⟨rfl,b2⟩
 have hb2:=bCall (below_bytes W 5 s) b2
 clear b2 hcv
 unfold dig
 have st1:=store_dig (shaN (sb s)) (shaN_len _)
 have ln1:(byts (shaN (sb s))).length=32:=by rw [byts_length,shaN_len]
 go_upto_region 2 with fail
 have BT:=Blk.new w2 49 (byts (shaN (sb s))).toArray _ rfl
 have hb3:=bAl hb2 (.cells (byts (shaN (sb s))).toArray 49)
 have hlt:W.heap.size≤w2.heap.size:=hb2.size
 clear hb2 st1 ln1
 generalize w2.alloc (.cells (byts (shaN (sb s))).toArray 49)=w3 at *
 generalize w2.heap.size=bt at *
 have hTs:=shaN_len (sb s)
 generalize shaN (sb s)=T at *
 have HTs:=Lib.hid hTs
 have hown0:=World.ownsRow_lit (base:=W.heap.size) (e:=5) (size:=1) w3 #[] 0 (Nat.le_trans hlt (Nat.le_of_lt BT.lt)) (by unfold maxLen;omega) rfl
 have hb4:=bAl hb3 (.cells #[] 5)
 have hR4:Rd (w3.alloc (.cells #[] 5)) (w3.alloc (.cells #[] 5)).heap.size 1 (some ⟨bt,0,none⟩) 32 (byts T):=by have:=Sl.of_byts (BT.alloc (.cells #[] 5));rwa [hTs] at this
 have hone:=byts_oneCell (l:=T)
 have hone2:=byts_oneCell (l:=l)
 have hs4:W.heap.size≤(w3.alloc (.cells #[] 5)).heap.size:=hb4.size
 clear hTs hb3 BT
 go_wp2_with (at_builtin;first
  | (refine wpList_appendG (.tmp 9) (.tmp 10) 123 W.heap.size 5 (.int .u8 0) 1 1 _ 0 _ (some ⟨bt,0,none⟩) 32 32 (w3.alloc (.cells #[] 5)).heap.size (byts T) rfl rfl Tryz.underlying123 byte_info rfl (by omega) rfl hown0 rfl hR4 (by intro h;cases h) hone (by unfold maxLen;omega) (by omega) hs4 ?_;intro v5 w5 hown5 hg5;have b5:=hg5.below hown0 hs4;have hb5:=hb4.trans b5;have hA5:=hA.below hb5;have hs5:W.heap.size≤w5.heap.size:=Nat.le_trans hs4 hg5.size)
  | (refine wpList_appendG (.tmp 11) (.tmp 12) 123 W.heap.size 5 (.int .u8 0) 1 1 v5 (0+32) _ A l.length c W.heap.size (byts l) rfl rfl Tryz.underlying123 byte_info rfl (by omega) rfl hown5 rfl hA5 hnil hone2 (by unfold maxLen;omega) (by omega) hs5 ?_;intro v6 w6 hown6 hg6;have b6:=hg6.below hown5 hs5;have hb6:=hb5.trans b6))
 go_ret
 refine ⟨_,rfl,hb6,?_⟩
 have hS:=Sl.of_own hown6
 have e1:T.length+l.length=0+32+l.length:=by rw [HTs.out];try omega
 have e2:byts (T++l)=[]++byts T++byts l:=by simp [byts]
 have e3:Sl w6 w6.heap.size 1 v6 (T++l).length (byts (T++l)):=by rw [e2,List.length_append,e1];exact hS
 first | exact e3 | (rw [List.length_append] at e3;exact e3)
def nodeT (a b:List Nat):List Nat:=shaN nodS++(a++b)
theorem ref_two (x y:List Nat) (hx:dgOk x) (hy:dgOk y) (W:World):Calls Tryz.prog 147 #[dig x,dig y] W (RetSl 1 (nodeT x y).length (byts (nodeT x y)) W):=by
 unfold dig
 have l1:(byts x).toArray.size=32:=by rw [List.size_toArray,byts_length,hx.1]
 have l2:(byts y).toArray.size=32:=by rw [List.size_toArray,byts_length,hy.1]
 go_enter Tryz.func147,Tryz.ntmps147
 go_upto_region 1 with fail
 have B1:=(Blk.new W 49 (byts x).toArray _ rfl).alloc (.cells (byts y).toArray 49)
 have B2:=Blk.new (W.alloc (.cells (byts x).toArray 49)) 49 (byts y).toArray _ rfl
 have hb:=bAl (bAl (bRefl W) (.cells (byts x).toArray 49)) (.cells (byts y).toArray 49)
 have hn1:(W.alloc (.cells (byts x).toArray 49)).heap.size=W.heap.size+1:=by simp
 rw [hn1] at B2
 clear hn1 l1 l2
 generalize (W.alloc (.cells (byts x).toArray 49)).alloc (.cells (byts y).toArray 49)=w2 at *
 have KS:Hid (∀ w':World,Below w2.heap.size w2 w'→True):=Lib.hid (fun _ _=>trivial)
 refine wp_region_schB (f:=0) KS [(1,1),(3,1),(0,3),(2,3),(4,3),(5,3),(6,3)] ?_
 simp only [pickS,List.getElem?_cons_zero,List.getElem?_cons_succ]
 iterate 2 refine wpSched_t ?_
 refine wpSched_last ?_
 first | simp only [List.map_nil] | simp only [List.map_cons,List.map_nil]
 clear KS
 replace B1:Blk w2.drew W.heap.size 49 (byts x).toArray:=B1
 replace B2:Blk w2.drew (W.heap.size+1) 49 (byts y).toArray:=B2
 replace hb:=bDr hb
 generalize w2.drew=w3 at *
 have hlt:W.heap.size+2≤w3.heap.size:=B2.lt
 have hown0:=World.ownsRow_lit (base:=W.heap.size+2) (e:=5) (size:=1) w3 #[] 0 hlt (by unfold maxLen;omega) rfl
 have hb4:=bAl hb (.cells #[] 5)
 have B14:=B1.alloc (.cells #[] 5)
 have B24:=B2.alloc (.cells #[] 5)
 have hs4:W.heap.size+2≤(w3.alloc (.cells #[] 5)).heap.size:=B24.lt
 have hR4:Rd (w3.alloc (.cells #[] 5)) (w3.alloc (.cells #[] 5)).heap.size 1 (some ⟨W.heap.size,0,none⟩) 32 (byts x):=by have:=Sl.of_byts B14;rwa [hx.1] at this
 have hone:=byts_oneCell (l:=x)
 have hone2:=byts_oneCell (l:=y)
 clear B1 B2 hb
 go_wp2_with (at_builtin;first
  | (refine wpList_appendG (.tmp 5) (.tmp 6) 123 (W.heap.size+2) 5 (.int .u8 0) 1 1 _ 0 _ (some ⟨W.heap.size,0,none⟩) 32 32 (w3.alloc (.cells #[] 5)).heap.size (byts x) rfl rfl Tryz.underlying123 byte_info rfl (by omega) rfl hown0 rfl hR4 (by intro h;cases h) hone (by unfold maxLen;omega) (by omega) hs4 ?_;intro v5 w5 hown5 hg5;have b5:=hg5.below hown0 hs4;have hb5:=hb4.trans (b5.mono (by omega));have B25:=B24.below b5 (by omega);have hs5:W.heap.size+2≤w5.heap.size:=Nat.le_trans hs4 hg5.size;have hR5:Rd w5 w5.heap.size 1 (some ⟨W.heap.size+1,0,none⟩) 32 (byts y):=(by have:=Sl.of_byts B25;rwa [hy.1] at this))
  | (refine wpList_appendG (.tmp 7) (.tmp 8) 123 (W.heap.size+2) 5 (.int .u8 0) 1 1 v5 (0+32) _ (some ⟨W.heap.size+1,0,none⟩) 32 32 w5.heap.size (byts y) rfl rfl Tryz.underlying123 byte_info rfl (by omega) rfl hown5 rfl hR5 (by intro h;cases h) hone2 (by unfold maxLen;omega) (by omega) hs5 ?_;intro v6 w6 hown6 hg6;have b6:=hg6.below hown5 hs5;have hb6:=hb5.trans (b6.mono (by omega));obtain ⟨A6,c6,hv6,hR6,hc6,hc62,hn6⟩:=Sl.of_own hown6;subst hv6))
 obtain ⟨X,hX⟩:∃ X,Hid (X=x++y):=⟨_,Lib.hid rfl⟩
 have hXl:0+32+32=X.length:=by rw [hX.out,List.length_append,hx.1,hy.1]
 have hR7:Rd w6 w6.heap.size 1 A6 X.length (byts X):=by
  have e:byts X=[]++byts x++byts y:=by rw [hX.out];simp [byts]
  rw [e,←hXl];exact hR6
 have q:=ref_text07 ⟨#[110,111,100,101]⟩ A6 c6 X w6 hR7 (by rw [←hXl];exact hn6) (by decide) (by omega)
 have hnod:sb ⟨#[110,111,100,101]⟩=nodS:=by decide
 rw [hnod,←hXl] at q
 have hT:Hid (nodeT x y=shaN nodS++X):=Lib.hid (by rw [hX.out];rfl)
 clear hnod hR7 hR6 hn6 hown6 hown5 hown0 hR4 hR5 B25 B24 B14
 (with_reducible refine q.mono ?_)
 rintro e w7 ⟨v7,rfl,b7,hS⟩
 have hb7:=bCall hb6 b7
 clear q
 go_wp2_with fail
 refine NoPanic.normal ?_
 go_wp2_with fail
 go_ret
 exact ⟨_,rfl,hb7,by rw [hT.out];exact hS⟩
theorem ref_first (A:Option Addr) (c:Nat) (ts:List (List Nat)) (vs:List Value) (W:World) (hA:Rd W W.heap.size 1 A ts.length vs) (hT:∀ (k:Nat) (u:Value) (t:List Nat),vs[k]?=some u→ts[k]?=some t→Sl W W.heap.size 1 u t.length (byts t)) (hok:∀ t∈ts,okB t∧t.length≤100000000000) (hn:ts.length≤1000) :
  Calls Tryz.prog 120 #[.slice A ts.length c] W (RetSl 32 ts.length ((ts.map leafN).flatMap byts) W):=by
 have hlv:vs.length=ts.length:=by have:=hA.1;rwa [Nat.mul_one] at this
 go_enter Tryz.func120,Tryz.ntmps120
 have hown0:=World.ownsRow_lit (base:=W.heap.size) (e:=49) (size:=32) W #[] 0 (Nat.le_refl _) (by unfold maxLen;omega) rfl
 have hb0:=bAl (bRefl W) (.cells #[] 49)
 go_wp2_with fail
 generalize W.alloc (.cells #[] 49)=w1 at *
 go_loopw [3,4] (fun row i wr=>∃ (k:Nat) (v:Value),k≤ts.length∧i = .int .i64 k∧row=v∧Below W.heap.size W wr∧wr.ownsRow W.heap.size 49 32 v k (((ts.take k).map leafN).flatMap byts)) (fun _ i _=>ts.length - (intOf i).toNat)
 case atStart=>exact ⟨0,_,Nat.zero_le _,rfl,rfl,hb0,hown0⟩
 case round =>
  clear hb0 hown0
  obtain ⟨k,v,hk,rfl,rfl,hb,hown⟩:=hrel
  by_cases hlt:k<ts.length
  ·obtain ⟨t,ht⟩:∃ t,Hid (ts[k]?=some t):=⟨_,Lib.hid (List.getElem?_eq_getElem hlt)⟩
   obtain ⟨u,hu⟩:∃ u,vs[k]?=some u:=⟨_,List.getElem?_eq_getElem (by omega)⟩
   obtain ⟨At,ct,rfl,hRt,_,_,hnt⟩:=hT k u t hu ht.out
   obtain ⟨ho,htl⟩:=hok t (List.mem_of_getElem? ht.out)
   obtain ⟨b,off,rfl,hbb,hcc⟩:=hA.2 (by omega)
   have d0:=(hb.cell (p:=⟨b,off+k,none⟩) hbb).trans (hcc k _ hu)
   have i0:(0:Int)≤(k:Int):=by omega
   have i1:(k:Int)<(ts.length:Int):=by omega
   have q:=ref_text07 ⟨#[108,101,97,102]⟩ At ct t wr ((hRt.below hb).more hb.size) hnt (by decide) (by omega)
   have hlea:sb ⟨#[108,101,97,102]⟩=leaS:=by decide
   rw [hlea] at q
   have hsn:Hid (((ts.take (k+1)).map leafN).flatMap byts=((ts.take k).map leafN).flatMap byts++byts (shaN (shaN leaS++t))):=by
    obtain ⟨hk,rfl⟩:=List.getElem?_eq_some_iff.1 ht.out
    show _=_
    rw [List.take_succ_eq_append_getElem hk,List.map_append,List.flatMap_append];simp [leafN]
   have hXo:okB (shaN leaS++t):=okB_app (okB_sha _) ho
   have hXl:(shaN leaS++t).length≤70368744177600:=by rw [List.length_append,shaN_len];omega
   generalize shaN leaS++t=X at *
   clear hlea hcc hu hRt hnt
   go_wp2_with fail
   (with_reducible refine q.mono ?_)
   rintro e w2 ⟨v2,rfl,b2,A2,c2,rfl,hR2,_,_,hn2⟩
   replace hown:=ownsRow_keep hown b2
   replace hb:=bCall hb b2
   clear q b2 d0
   have q2:=ref_sum A2 _ c2 X w2 hR2 hn2 hXo (by omega)
   unfold dig at q2
   go_wp2_with fail
   (with_reducible refine q2.mono ?_)
   rintro e w3 ⟨rfl,b3⟩
   replace hown:=ownsRow_keep hown b3
   replace hb:=bCall hb b3
   clear q2 b3 hR2
   have hN:(shaN X).length=32:=shaN_len X
   have hlN:(byts (shaN X)).length=32:=by rw [byts_length,hN]
   have hs6:=hb.size
   have h63:k+1≤maxLen:=by unfold maxLen;omega
   have hby:(k+1)*32≤140737488355328:=by omega
   go_wp2_with (at_builtin;rw [build_dig hN];refine wpList_append1G w3 (byts (shaN X)) (.tmp 12) (.tmp 19) 45 W.heap.size 49 zeroD 32 32 _ k _ (by rfl) (by rfl) Tryz.underlying45 dig_info3 rfl (by omega) (by rfl) hown (by rfl) hlN byts_oneCell h63 hby hs6 ?_;intro v' w' hown4 hg4)
   exact ⟨⟨k+1,_,by omega,by go_num,rfl,hb.trans (hg4.below hown hs6),by rw [hsn.out];exact hown4⟩,by simp [intOf];omega⟩
  ·have hkn:k=ts.length:=by omega
   subst hkn
   rw [List.take_length] at hown
   go_wp2_with fail
   go_ret
   exact ⟨_,rfl,hb,Sl.of_own hown⟩
theorem ref_next (A:Option Addr) (c:Nat) (l:List (List Nat)) (W:World) (hA:Rd W W.heap.size 32 A l.length (l.flatMap byts)) (hok:∀ d∈l,dgOk d) (hn:l.length≤1000) :
  Calls Tryz.prog 121 #[.slice A l.length c] W (RetSl 32 (upN l).length ((upN l).flatMap byts) W):=by
 go_enter Tryz.func121,Tryz.ntmps121
 have hown0:=World.ownsRow_lit (base:=W.heap.size) (e:=49) (size:=32) W #[] 0 (Nat.le_refl _) (by unfold maxLen;omega) rfl
 have hb0:=bAl (bRefl W) (.cells #[] 49)
 go_wp2_with fail
 generalize W.alloc (.cells #[] 49)=w1 at *
 go_loopw [3,4] (fun row i wr=>∃ (D:List (List Nat)) (k m:Nat) (v:Value),k≤l.length+1∧m≤k∧i = .int .i64 k∧row=v∧Hid (D++upN (l.drop k)=upN l∧D.length=m)∧Below W.heap.size W wr∧wr.ownsRow W.heap.size 49 32 v m (D.flatMap byts)) (fun _ i _=>l.length+2 - (intOf i).toNat)
 case atStart=>exact ⟨[],0,0,_,Nat.zero_le _,Nat.le_refl _,rfl,rfl,Lib.hid ⟨rfl,rfl⟩,hb0,hown0⟩
 case round =>
  clear hb0 hown0
  obtain ⟨D,k,m,v,hk,hmk,rfl,rfl,hD,hb,hown⟩:=hrel
  have hs6:=hb.size
  by_cases hlt:k<l.length
  ·obtain ⟨b,off,rfl,hbb,hcc⟩:=hA.2 (by omega)
   obtain ⟨x,hx⟩:∃ x,Hid (l[k]?=some x):=⟨_,Lib.hid (List.getElem?_eq_getElem hlt)⟩
   have hxo:dgOk x:=hok x (List.mem_of_getElem? hx.out)
   have i0:(0:Int)≤(k:Int):=by omega
   have i1:(k:Int)<(l.length:Int):=by omega
   have f1:IntKind.i64.wrap ((k:Int)+1)=(k:Int)+1:=by rw [IntKind.wrap_i64];omega
   have h63:m+1≤maxLen:=by unfold maxLen;omega
   have hby:(m+1)*32≤140737488355328:=by omega
   have LX:∀ w',Below W.heap.size W w'→(Instr.loadAt 49 (.pointer (some ⟨b,off+k*32,none⟩))).run Tryz.prog w' = .ok (.agg (byts x).toArray) w':=fun w' h=>load_dig hxo.1 (fun j u hu=>(h.cell (p:=⟨b,off+k*32+j,none⟩) hbb).trans (by
    rw [Nat.add_assoc]
    exact hcc _ u (by
     have hj:j<32:=by have:=(List.getElem?_eq_some_iff.1 hu).1;rwa [byts_length,hxo.1] at this
     rw [flat_mem l k j x (fun y hy=>by rw [byts_length,(hok y hy).1]) hx.out hj];exact hu)))
   by_cases hl2:k+1<l.length
   ·obtain ⟨y,hy⟩:∃ y,Hid (l[k+1]?=some y):=⟨_,Lib.hid (List.getElem?_eq_getElem hl2)⟩
    have hyo:dgOk y:=hok y (List.mem_of_getElem? hy.out)
    have LY:∀ w',Below W.heap.size W w'→(Instr.loadAt 49 (.pointer (some ⟨b,off+(k+1)*32,none⟩))).run Tryz.prog w' = .ok (.agg (byts y).toArray) w':=fun w' h=>load_dig hyo.1 (fun j u hu=>(h.cell (p:=⟨b,off+(k+1)*32+j,none⟩) hbb).trans (by
     rw [Nat.add_assoc]
     exact hcc _ u (by
      have hj:j<32:=by have:=(List.getElem?_eq_some_iff.1 hu).1;rwa [byts_length,hyo.1] at this
      rw [flat_mem l (k+1) j y (fun y hy=>by rw [byts_length,(hok y hy).1]) hy.out hj];exact hu)))
    have hdr:Hid (l.drop k=x::y::l.drop (k+2)):=Lib.hid (by
     obtain ⟨h1,e1⟩:=List.getElem?_eq_some_iff.1 hx.out
     obtain ⟨h2,e2⟩:=List.getElem?_eq_some_iff.1 hy.out
     rw [List.drop_eq_getElem_cons h1,List.drop_eq_getElem_cons h2,e1,e2])
    have KS:Hid (∀ w',Below wr.heap.size wr w'→(Instr.loadAt 49 (.pointer (some ⟨b,off+k*32,none⟩))).run Tryz.prog w' = .ok (.agg (byts x).toArray) w'∧(Instr.loadAt 49 (.pointer (some ⟨b,off+(k+1)*32,none⟩))).run Tryz.prog w' = .ok (.agg (byts y).toArray) w'):=Lib.hid (fun w' h=>⟨LX w' (bCall hb h),LY w' (bCall hb h)⟩)
    have f2:((k:Int)+1).toNat=k+1:=by omega
    have f3:(0:Int)≤(k:Int)+1:=by omega
    have f4:(k:Int)+1<(l.length:Int):=by omega
    clear LX LY hcc
    go_upto_region 6 with fail
    refine wp_region_schB (f:=10) KS [(0,1),(1,1),(2,1),(3,1),(4,2),(5,1),(6,1),(7,1),(8,1),(9,2),(10,3),(11,3),(12,3),(13,3),(14,3)] ?_
    simp only [pickS,List.getElem?_cons_zero,List.getElem?_cons_succ]
    iterate 4 refine wpSched_t ?_
    refine wpSched_r (v:=?v1) (hv:=?h1) ?_;case h1=>(intro w hSw;(first | refine (exec_load rfl rfl hSw).trans ?_ | refine (exec_load rfl rfl hSw.1).trans ?_ | refine (exec_load rfl rfl hSw.2.1).trans ?_ | refine (exec_load rfl rfl hSw.2.2.1).trans ?_ | refine (exec_load rfl rfl hSw.2).trans ?_ | refine (exec_load rfl rfl hSw.2.2).trans ?_);with_reducible rfl)
    iterate 4 refine wpSched_t ?_
    refine wpSched_r (v:=?v2) (hv:=?h2) ?_;case h2=>(intro w hSw;(first | refine (exec_load rfl rfl hSw).trans ?_ | refine (exec_load rfl rfl hSw.1).trans ?_ | refine (exec_load rfl rfl hSw.2.1).trans ?_ | refine (exec_load rfl rfl hSw.2.2.1).trans ?_ | refine (exec_load rfl rfl hSw.2).trans ?_ | refine (exec_load rfl rfl hSw.2.2).trans ?_);with_reducible rfl)
    refine wpSched_last ?_
    first | simp only [List.map_nil] | simp only [List.map_cons,List.map_nil]
    have q:=ref_two x y hxo hyo wr.drew
    unfold dig at q
    clear KS
    have hXo:Hid (nodeN x y=shaN (nodeT x y)):=Lib.hid rfl
    have hok2:okB (nodeT x y):=okB_app (okB_sha _) (okB_app hxo.2 hyo.2)
    have hXl:(nodeT x y).length≤70368744177600:=by unfold nodeT;rw [List.length_append,List.length_append,shaN_len,hxo.1,hyo.1];omega
    generalize nodeT x y=X at *
    replace hown:=hown.drew
    replace hb:=bDr hb
    generalize wr.drew=w2 at *
    go_wp2_with fail
    (with_reducible refine q.mono ?_)
    rintro e w5 ⟨v5,rfl,b5,A5,c5,rfl,hR5,_,_,hn5⟩
    replace hown:=ownsRow_keep hown b5
    replace hb:=bCall hb b5
    clear q b5
    have q2:=ref_sum A5 _ c5 X w5 hR5 hn5 hok2 (by omega)
    unfold dig at q2
    go_wp2_with fail
    (with_reducible refine q2.mono ?_)
    rintro e w6 ⟨rfl,b6⟩
    replace hown:=ownsRow_keep hown b6
    replace hb:=bCall hb b6
    clear b6 hR5 q2
    have hN:(shaN X).length=32:=shaN_len X
    have hlN:(byts (shaN X)).length=32:=by rw [byts_length,hN]
    have hs7:=hb.size
    go_wp2_with (at_builtin;rw [build_dig hN];refine wpList_append1G w6 (byts (shaN X)) (.tmp 17) (.tmp 29) 45 W.heap.size 49 zeroD 32 32 _ m (D.flatMap byts) (by rfl) (by rfl) Tryz.underlying45 dig_info3 rfl (by omega) (by rfl) hown (by rfl) hlN byts_oneCell h63 hby hs7 ?_;intro v' w' hown4 hg4)
    refine NoPanic.normal ?_
    go_wp2_with fail
    refine ⟨⟨D++[nodeN x y],k+2,m+1,v',by omega,by omega,by go_num,rfl,Lib.hid ⟨?_,?_⟩,hb.trans (hg4.below hown hs7),?_⟩,by simp [intOf];omega⟩
    ·rw [←hD.out.1,hdr.out,List.append_assoc];rfl
    ·rw [List.length_append,hD.out.2];rfl
    ·rw [List.flatMap_append,hXo.out]
     simpa using hown4
   ·have hdr:Hid (l.drop k=[x]):=Lib.hid (by
     obtain ⟨h1,e1⟩:=List.getElem?_eq_some_iff.1 hx.out
     rw [List.drop_eq_getElem_cons h1,e1,List.drop_eq_nil_of_le (by omega)])
    have f4:¬(k:Int)+1<(l.length:Int):=by omega
    have L:=LX wr hb
    have hN:=hxo.1
    have hlN:(byts x).length=32:=by rw [byts_length,hN]
    clear LX hcc
    go_upto_region 7 with fail
    apply wp_region_lit
    iterate 12 go_step
    refine wpList_loadG (by rfl) (by rfl) (by rfl) L ?_
    simp only [Act.put,List.setIfInBounds_toArray,List.set_cons_zero,List.set_cons_succ]
    clear L
    go_wp2_with (at_builtin;rw [build_dig hN];refine wpList_append1G wr (byts x) (.tmp 31) (.tmp 36) 45 W.heap.size 49 zeroD 32 32 _ m (D.flatMap byts) (by rfl) (by rfl) Tryz.underlying45 dig_info3 rfl (by omega) (by rfl) hown (by rfl) hlN byts_oneCell h63 hby hs6 ?_;intro v' w' hown4 hg4)
    refine ⟨⟨D++[x],k+2,m+1,v',by omega,by omega,by go_num,rfl,Lib.hid ⟨?_,?_⟩,hb.trans (hg4.below hown hs6),?_⟩,by simp [intOf];omega⟩
    ·rw [←hD.out.1,hdr.out,List.drop_eq_nil_of_le (by omega)];simp [upN]
    ·rw [List.length_append,hD.out.2];rfl
    ·rw [List.flatMap_append]
     simpa using hown4
  ·have i1:¬(k:Int)<(l.length:Int):=by omega
   go_wp2_with fail
   go_ret
   have h1:=hD.out.1
   rw [List.drop_eq_nil_of_le (by omega),show upN []=[] from rfl,List.append_nil] at h1
   have h2:=hD.out.2
   rw [h1] at h2 hown
   exact ⟨_,rfl,hb,by rw [h2];exact Sl.of_own hown⟩
theorem ref_root07 (A:Option Addr) (c:Nat) (ts:List (List Nat)) (vs:List Value) (W:World) (hA:Rd W W.heap.size 1 A ts.length vs) (hT:∀ (k:Nat) (u:Value) (t:List Nat),vs[k]?=some u→ts[k]?=some t→Sl W W.heap.size 1 u t.length (byts t)) (hok:∀ t∈ts,okB t∧t.length≤100000000000) (hn:ts.length≤1000) :
  Calls Tryz.prog 78 #[.slice A ts.length c] W (Ret (dig (rootN ts)) W):=by
 go_enter Tryz.func78,Tryz.ntmps78
 go_upto_region 1 with fail
 change Code.wp _ _ _ _ (W.alloc (.cells (byts (zerosN 32)).toArray 49))
 have BD:=Blk.new W 49 (byts (zerosN 32)).toArray _ rfl
 have hb:=bAl (bRefl W) (.cells (byts (zerosN 32)).toArray 49)
 generalize W.alloc (.cells (byts (zerosN 32)).toArray 49)=w1 at *
 by_cases h0:ts=[]
 ·subst h0
  have hr:Hid (dig (rootN []) = .agg (byts (taggedN nooS [])).toArray):=Lib.hid rfl
  have hln:(taggedN nooS []).length=32:=taggedN_len _ _
  have q:=ref_tagged ⟨#[110,111,110,101]⟩ none 0 0 [] w1 Rd.nil_ (fun _=>⟨rfl,rfl⟩) (by intro x hx;cases hx) (by decide) (by decide)
  have hnoo:sb ⟨#[110,111,110,101]⟩=nooS:=by decide
  rw [hnoo] at q
  unfold dig at q
  generalize taggedN nooS []=X at *
  clear hnoo hT hok hA
  go_wp2_with fail
  (with_reducible refine q.mono ?_)
  rintro e w5 ⟨rfl,b5⟩
  have hb5:=bCall hb b5
  have BD5:=BD.below b5 BD.lt
  clear q
  dsimp only
  (refine ‹∀ (a:Act) (w:World),wpList _ _ _ _ a w→_› _ _ ?_)
  refine wpList_store_row rfl 49 (.tmp 2) (.tmp 7) rfl W.heap.size (byts X).toArray rfl rfl 49 _ BD5 (by rw [List.size_toArray,byts_length,hln];exact dig_info) (by rw [List.size_toArray,List.size_toArray,byts_length,byts_length,hln];rfl) (byts_one _) ?_
  have hb9:=below_setRow hb5 (Nat.le_refl _) (byts X).toArray
  have BD9:Blk (w5.setRow W.heap.size (byts X).toArray) W.heap.size 49 (byts X).toArray:=setRow_heap w5 W.heap.size _ _ 49 _ BD5
  go_wp2_with fail
  exact bodyPost_ret (v := .agg (byts X).toArray) (results_cell_row rfl _ _ W.heap.size 49 _ (0,0) _ rfl BD9 dig_under rfl (by rw [List.size_toArray,byts_length,hln];exact dig_info)) rfl ⟨by rw [hr.out],hb9⟩
 ·have h00:0<ts.length:=by
   rcases Nat.eq_zero_or_pos ts.length with h | h
   ·exact absurd (List.eq_nil_of_length_eq_zero h) h0
   ·exact h
  have hr:Hid (rootN ts=topN ts.length (ts.map leafN)):=Lib.hid (by unfold rootN;rw [if_neg h0])
  have hle:=leafs_ok ts
  have hll:(ts.map leafN).length=ts.length:=by simp
  have q:=ref_first A c ts vs w1 ((hA.below hb).more hb.size) (fun k u t hu ht=>((hT k u t hu ht).below hb).more hb.size) hok hn
  have hz0:((ts.length:Int)==0)=false:=by rw [beq_eq_false_iff_ne];omega
  rw [←hll] at q
  have hR0:RowsAt (ts.map leafN) 0 ts.length:=⟨by rw [hll];omega,by rw [hll];rfl,by show (ts.map leafN).length≤_;omega,by show 0<(ts.map leafN).length;omega⟩
  have hHR0:=Lib.hid hR0
  have hHl:=Lib.hid hll
  clear hR0 hll h0 hT hA hok
  rw [hHl.out] at q
  generalize ts.map leafN=l0 at *
  go_wp2_with fail
  (with_reducible refine q.mono ?_)
  rintro e w2 ⟨v2,rfl,b2,A2,c2,rfl,hR2,_⟩
  have BD2:=BD.below b2 BD.lt
  replace hb:=bCall hb b2
  clear q b2 BD hz0
  go_wp2_with fail
  go_loopw [3] (fun row wr=>∃ (j f m:Nat) (A':Option Addr) (c':Nat),row = .slice A' m c'∧m≤1000∧0<m∧Hid (RowsAt l0 j f∧(rowN l0 j).length=m)∧Below W.heap.size W wr∧Blk wr W.heap.size 49 (byts (zerosN 32)).toArray∧Rd wr wr.heap.size 32 A' m ((rowN l0 j).flatMap byts)) (fun row _=>rowLen row)
  case atStart=>exact ⟨0,ts.length,ts.length,A2,c2,rfl,hn,h00,Lib.hid ⟨hHR0.out,hHl.out⟩,hb,BD2,hR2⟩
  case round =>
   clear hb BD2 hR2 hHR0
   obtain ⟨j,f,m,A',c',rfl,hm,hm0,hj,hb,BD,hR⟩:=hrel
   by_cases hlt:1<m
   ·have i1:(1:Int)<(m:Int):=by omega
    have q:=ref_next A' c' (rowN l0 j) wr (by rw [hj.out.2];exact hR) (rowN_ok hle j) (by rw [hj.out.2];exact hm)
    have hnx:Hid (RowsAt l0 (j+1) (f - 1)):=Lib.hid (hj.out.1.next (by rw [hj.out.2];exact hlt))
    have hul:(upN (rowN l0 j)).length=(m+1) / 2:=by rw [upN_length,hj.out.2]
    rw [hj.out.2,hul] at q
    have hrn:Hid (rowN l0 (j+1)=upN (rowN l0 j)):=Lib.hid rfl
    generalize upN (rowN l0 j)=U at *
    replace hul:=Lib.hid hul
    go_wp2_with fail
    (with_reducible refine q.mono ?_)
    rintro e w3 ⟨v3,rfl,b3,A3,c3,rfl,hR3,_⟩
    have BD3:=BD.below b3 BD.lt
    have hb3:=bCall hb b3
    clear q b3
    go_wp2_with fail
    refine ⟨⟨j+1,f - 1,(m+1) / 2,A3,c3,rfl,by omega,by omega,Lib.hid ⟨hnx.out,by rw [hrn.out,hul.out]⟩,hb3,BD3,by rw [hrn.out];exact hR3⟩,?_⟩
    show (m+1) / 2<m
    omega
   ·have i1:¬(1:Int)<(m:Int):=by omega
    obtain ⟨d,r,hdr⟩:∃ d r,rowN l0 j=d::r:=by
     match hr:rowN l0 j with
     | []=>have:=hj.out.2;rw [hr] at this;simp at this;omega
     | x::r=>exact ⟨x,r,rfl⟩
    have hd:dgOk d:=rowN_ok hle j d (by rw [hdr];simp)
    have htop:Hid (rootN ts=d):=Lib.hid (by
     rw [hr.out,←hHl.out,hj.out.1.end_ (by rw [hj.out.2];exact hlt),hdr];rfl)
    obtain ⟨b,off,rfl,hbb,hcc⟩:=hR.2 hm0
    have hrun:=load_dig (w:=wr) (b:=b) (o:=off) hd.1 (fun j u hu=>hcc j u (by
     have hj:j<(byts d).length:=(List.getElem?_eq_some_iff.1 hu).1
     rw [hdr,List.flatMap_cons,List.getElem?_append_left hj];exact hu))
    have i2:(0:Int)<(m:Int):=by omega
    have hN:=hd.1
    clear hcc hR hdr hj hd hr
    go_upto_region 6 with fail
    apply wp_region_lit
    iterate 6 go_step
    refine wpList_loadG (by rfl) (by rfl) (by rfl) hrun ?_
    simp only [Act.put,List.setIfInBounds_toArray,List.set_cons_zero,List.set_cons_succ]
    refine wpList_store_row rfl 49 (.tmp 2) (.tmp 17) rfl W.heap.size (byts d).toArray rfl rfl 49 _ BD (by rw [List.size_toArray,byts_length,hN];exact dig_info) (by rw [List.size_toArray,List.size_toArray,byts_length,byts_length,hN];rfl) (byts_one _) ?_
    have hb9:=below_setRow hb (Nat.le_refl _) (byts d).toArray
    have BD9:Blk (wr.setRow W.heap.size (byts d).toArray) W.heap.size 49 (byts d).toArray:=setRow_heap wr W.heap.size _ _ 49 _ BD
    clear hrun
    go_wp2_with fail
    exact bodyPost_ret (v := .agg (byts d).toArray) (results_cell_row rfl _ _ W.heap.size 49 _ (0,0) _ rfl BD9 dig_under rfl (by rw [List.size_toArray,byts_length,hN];exact dig_info)) rfl ⟨by rw [htop.out];rfl,hb9⟩
theorem TxAt.grew {w w':World} {x v v':Value} {t:List Nat} {base n:Nat} {xs:List Value} (h:TxAt w x t) (hg:Grew w w' v v') (hown:w.ownsRow base 123 1 v n xs):TxAt w' x t:=by
 obtain ⟨g,cap,cur,hv,hB,h1⟩:=h
 exact ⟨g,cap,cur,hv,hg.blk hown hB (by decide),h1⟩
theorem ref_letters48 (A:Option Addr) (c:Nat) (l:List Ltr) (hok:∀ x∈l,x.ok) (W:World) (hA:Rd W W.heap.size 6 A l.length (l.flatMap Ltr.cl)) (hn:l.length≤1000) :
  Calls Tryz.prog 79 #[.slice A l.length c] W (fun r w'=>∃ A2 c2 vs,r = .returned (.slice A2 l.length c2)∧Below W.heap.size W w'∧Rd w' w'.heap.size 1 A2 l.length vs ∧
   ∀ (k:Nat) (u:Value) (t:List Nat),vs[k]?=some u→(l.map Ltr.txt)[k]?=some t→Sl w' w'.heap.size 1 u t.length (byts t)):=by
 go_enter Tryz.func79,Tryz.ntmps79
 have hown0:=World.ownsRow_lit (base:=W.heap.size) (e:=123) (size:=1) W #[] 0 (Nat.le_refl _) (by unfold maxLen;omega) rfl
 have hb0:=bAl (bRefl W) (.cells #[] 123)
 go_wp2_with fail
 generalize W.alloc (.cells #[] 123)=w1 at *
 go_loopw [3,4] (fun row i wr=>∃ (k:Nat) (v:Value) (vs:List Value),k≤l.length∧i = .int .i64 k∧row=v∧Below W.heap.size W wr∧wr.ownsRow W.heap.size 123 1 v k vs∧Hid (∀ (j:Nat) (u:Value) (t:List Nat),vs[j]?=some u→(l.map Ltr.txt)[j]?=some t→TxAt wr u t)) (fun _ i _=>l.length - (intOf i).toNat)
 case atStart=>exact ⟨0,_,[],Nat.zero_le _,rfl,rfl,hb0,hown0,Lib.hid (fun j u t h=>by simp at h)⟩
 case round =>
  clear hb0 hown0
  obtain ⟨k,v,vs,hk,rfl,rfl,hb,hown,hT⟩:=hrel
  by_cases hlt:k<l.length
  ·obtain ⟨x,hx⟩:∃ x,Hid (l[k]?=some x):=⟨_,Lib.hid (List.getElem?_eq_getElem hlt)⟩
   have hxo:=hok x (List.mem_of_getElem? hx.out)
   obtain ⟨b,off,rfl,hbb,o0,o1,o2,o3,o4,o5⟩:=Ltr_at (hA.below hb) hlt hx.out
   have hvl:Hid (vs.length=k):=Lib.hid (by have:=hown.1;rwa [Nat.mul_one] at this)
   have hxt:Hid ((l.map Ltr.txt)[k]?=some x.txt):=Lib.hid (by rw [List.getElem?_map,hx.out];rfl)
   have i0:(0:Int)≤(k:Int):=by omega
   have i1:(k:Int)<(l.length:Int):=by omega
   have q:=ref_letter x (ints6_ok hxo) wr
   have hpos:0<x.txt.length:=encN_pos _
   generalize x.txt=t at *
   unfold Ltr.agg at q
   clear hxo
   go_wp2_with fail
   (with_reducible refine q.mono ?_)
   rintro e w2 ⟨v2,rfl,b2,hO2⟩
   have hT2:Hid (∀ (j:Nat) (u:Value) (t:List Nat),vs[j]?=some u→(l.map Ltr.txt)[j]?=some t→TxAt w2 u t):=Lib.hid (fun j u t h1 h2=>(hT.out j u t h1 h2).below b2)
   have hN2:=TxAt.of_own hO2 hpos
   obtain ⟨A2,c2,rfl,-⟩:=Sl.of_own hO2
   replace hown:=ownsRow_keep hown b2
   replace hb:=bCall hb b2
   clear q b2 o0 o1 o2 o3 o4 o5 hT hO2
   have hs6:=hb.size
   have h63:k+1≤maxLen:=by unfold maxLen;omega
   have hby:(k+1)*24≤140737488355328:=by omega
   have hone:∀ u∈[Value.slice A2 t.length c2],u.oneCell'=true:=by
    intro u hu
    simp only [List.mem_cons,List.not_mem_nil,or_false] at hu
    subst hu;rfl
   go_wp2_with (at_builtin;refine wpList_append1G w2 [.slice A2 t.length c2] (.tmp 12) (.tmp 18) 121 W.heap.size 123 (.slice none 0 0) 1 24 _ k vs (by rfl) (by rfl) Tryz.underlying121 bytes_info rfl (by omega) (by rfl) hown (by rfl) rfl hone h63 hby hs6 ?_;intro v' w' hown4 hg4)
   refine ⟨⟨k+1,_,vs++[.slice A2 t.length c2],by omega,by go_num,rfl,hb.trans (hg4.below hown hs6),hown4,Lib.hid (fun j u t' h1 h2=>?_)⟩,by simp [intOf];omega⟩
   rcases Nat.lt_or_ge j k with hj | hj
   ·rw [List.getElem?_append_left (by rw [hvl.out];exact hj)] at h1
    exact (hT2.out j u t' h1 h2).grew hg4 hown
   ·have hjk:j=k:=by
     have:=(List.getElem?_eq_some_iff.1 h1).1
     rw [List.length_append,hvl.out] at this
     simp at this
     omega
    subst hjk
    rw [List.getElem?_append_right (by rw [hvl.out];exact Nat.le_refl _),hvl.out,Nat.sub_self] at h1
    rw [hxt.out] at h2
    simp at h1 h2
    subst h1;subst h2
    exact hN2.grew hg4 hown
  ·have hkn:k=l.length:=by omega
   subst hkn
   obtain ⟨A2,c2,rfl,hR,-⟩:=Sl.of_own hown
   go_wp2_with fail
   go_ret
   exact ⟨A2,c2,vs,rfl,hb,hR,fun k u t h1 h2=>(hT.out k u t h1 h2).sl⟩
theorem ref_root48 (A:Option Addr) (c:Nat) (l:List Ltr) (hok:∀ x∈l,x.ok) (W:World) (hA:Rd W W.heap.size 6 A l.length (l.flatMap Ltr.cl)) (hn:l.length≤1000) :
  Calls Tryz.prog 42 #[.slice A l.length c] W (Ret (dig (rootL l)) W):=by
 go_enter Tryz.func42,Tryz.ntmps42
 go_upto_region 1 with fail
 change Code.wp _ _ _ _ (W.alloc (.cells (byts (zerosN 32)).toArray 49))
 have BD:=Blk.new W 49 (byts (zerosN 32)).toArray _ rfl
 have hb:=bAl (bRefl W) (.cells (byts (zerosN 32)).toArray 49)
 generalize W.alloc (.cells (byts (zerosN 32)).toArray 49)=w1 at *
 have q:=ref_letters48 A c l hok w1 ((hA.below hb).more hb.size) hn
 have hml:(l.map Ltr.txt).length=l.length:=by simp
 have hto:=txt_ok hok
 have hX:Hid (dig (rootL l) = .agg (byts (rootN (l.map Ltr.txt))).toArray):=Lib.hid rfl
 have hln:=(rootN_ok (l.map Ltr.txt)).1
 go_wp2_with fail
 (with_reducible refine q.mono ?_)
 rintro e w3 ⟨A3,c3,vs,rfl,b3,hR3,hT⟩
 have hb3:=bCall hb b3
 have BD3:=BD.below b3 BD.lt
 rw [←hml] at hR3
 have q3:=ref_root07 A3 c3 (l.map Ltr.txt) vs w3 hR3 hT (fun t ht=>⟨(hto t ht).1,(hto t ht).2.2⟩) (by rw [hml];exact hn)
 unfold dig at q3
 rw [hml] at q3
 generalize rootN (l.map Ltr.txt)=X at *
 clear q hT hR3 hto BD b3
 go_wp2_with fail
 (with_reducible refine q3.mono ?_)
 rintro e w5 ⟨rfl,b5⟩
 have hb5:=bCall hb3 b5
 have BD5:=BD3.below b5 BD3.lt
 clear q3
 dsimp only
 (refine ‹∀ (a:Act) (w:World),wpList _ _ _ _ a w→_› _ _ ?_)
 refine wpList_store_row rfl 49 (.tmp 2) (.tmp 5) rfl W.heap.size (byts X).toArray rfl rfl 49 _ BD5 (by rw [List.size_toArray,byts_length,hln];exact dig_info) (by rw [List.size_toArray,List.size_toArray,byts_length,byts_length,hln];rfl) (byts_one _) ?_
 have hb9:=below_setRow hb5 (Nat.le_refl _) (byts X).toArray
 have BD9:Blk (w5.setRow W.heap.size (byts X).toArray) W.heap.size 49 (byts X).toArray:=setRow_heap w5 W.heap.size _ _ 49 _ BD5
 go_wp2_with fail
 exact bodyPost_ret (v := .agg (byts X).toArray) (results_cell_row rfl _ _ W.heap.size 49 _ (0,0) _ rfl BD9 dig_under rfl (by rw [List.size_toArray,byts_length,hln];exact dig_info)) rfl ⟨by rw [hX.out],hb9⟩
end Go.Proofs.YtoeobcmmafncmaaGreatDoor

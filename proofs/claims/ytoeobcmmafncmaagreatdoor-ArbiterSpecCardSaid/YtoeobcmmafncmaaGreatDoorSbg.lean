/- handover: between, formed; walked. -/
import Derived.Test.YtoeobcmmafncmaaGreatDoorSbf
import Derived.Test.YtoeobcmmafncmaaGreatDoorSar
set_option maxRecDepth 1000000
set_option maxHeartbeats 16000000
namespace Go.Proofs.YtoeobcmmafncmaaGreatDoor
open Go.RowKit
theorem ho_between (x a b:Int) (W:World):Calls Tryz.prog 103 #[.int .i64 x,.int .i64 a,.int .i64 b] W (Same (.bool (decide (a≤x∧x≤b))) W):=by
 by_cases h1:a≤x
 ·by_cases h2 : x ≤ b
  ·have e:Hid (decide (a≤x∧x≤b)=true):=Lib.hid (decide_eq_true ⟨h1,h2⟩)
   go_enter Tryz.func103,Tryz.ntmps103
   go_wp2_with fail
   go_ret
   exact ⟨ret_bool (by rw [e.out]),rfl⟩
  ·have e:Hid (decide (a≤x∧x≤b)=false):=Lib.hid (decide_eq_false (by omega))
   go_enter Tryz.func103,Tryz.ntmps103
   go_wp2_with fail
   go_ret
   exact ⟨ret_bool (by simp;try omega),rfl⟩
 ·have e:Hid (decide (a≤x∧x≤b)=false):=Lib.hid (decide_eq_false (by omega))
  go_enter Tryz.func103,Tryz.ntmps103
  go_wp2_with fail
  go_ret
  exact ⟨ret_bool (by simp;try omega),rfl⟩
structure HdAt (w:World) (g:Nat) (h:Hd):Prop where
 c0:w.cell? ⟨g,0,none⟩=some (.int .i64 h.line)
 c1:w.cell? ⟨g,1,none⟩=some (.int .i64 h.at_)
 c2:w.cell? ⟨g,2,none⟩=some (.int .i64 h.arrive)
 c3:w.cell? ⟨g,3,none⟩=some (.int .i64 h.leg)
 c4:w.cell? ⟨g,4,none⟩=some (.int .i64 h.from_)
 c5:w.cell? ⟨g,5,none⟩=some (.int .i64 h.to_)
 c6:w.cell? ⟨g,6,none⟩=some (.int .i64 h.many)
 c39:w.cell? ⟨g,39,none⟩=some (.int .i64 h.time)
 c40:w.cell? ⟨g,40,none⟩=some (.int .i64 h.e)
 c41:w.cell? ⟨g,41,none⟩=some (.int .i64 h.s)
theorem HdAt.of {w:World} {g:Nat} {t:TypeId} {h:Hd} {cs:Array Value} (B:Blk w g t cs) (e:cs=h.cl.toArray) (ho:h.ok):HdAt w g h:=by
 subst e
 obtain ⟨h0,h1,h2,h3,h4,h5,h6,_,h39,h40,h41⟩:=Hd.cells ho
 have k:∀ i v,h.cl[i]?=some v→w.cell? ⟨g,i,none⟩=some v:=fun i v hv=>by rw [B.cell i];simpa using hv
 exact ⟨k _ _ h0,k _ _ h1,k _ _ h2,k _ _ h3,k _ _ h4,k _ _ h5,k _ _ h6,k _ _ h39,k _ _ h40,k _ _ h41⟩
theorem tmB_eq (n:Int):decide (0≤n∧n≤2097151)=tmB n:=by
 unfold tmB
 rw [←Bool.decide_and]
 apply decide_eq_decide.2
 omega
theorem ho_formed (h:Hd) (ho:h.ok) (W:World):Calls Tryz.prog 64 #[.agg h.cl.toArray] W (Ret (.bool h.formed) W):=by
 obtain ⟨cs,hcs⟩:∃ cs,h.cl.toArray=cs:=⟨_,rfl⟩
 rw [hcs]
 have BH:=Blk.new W 53 cs _ rfl
 have hb:=bAl (bRefl W) (.cells cs 53)
 obtain ⟨c0,c1,c2,c3,c4,c5,c6,c39,c40,c41⟩:=HdAt.of BH hcs.symm ho
 have q1:=fun w=>ho_between h.at_ 0 2097151 w
 have q2:=fun w=>ho_between h.arrive 0 2097151 w
 have q3:=fun w=>ho_between h.time 0 2097151 w
 have q4:=fun w=>ho_between h.from_ 0 23 w
 have q5:=fun w=>ho_between h.to_ (-1) 23 w
 have q7:=fun w=>ho_between h.line 0 63 w
 have q8:=fun w=>ho_between h.leg 0 8 w
 have q9:=fun w=>ho_between h.many 0 64 w
 obtain ⟨v,hv⟩:∃ v,h.formed=v:=⟨_,rfl⟩
 rw [hv]
 have hv2:((decide (0≤h.at_∧h.at_≤2097151)&&(decide (0≤h.arrive∧h.arrive≤2097151)&&decide (0≤h.time∧h.time≤2097151)))&&((decide (0≤h.from_∧h.from_≤23)&&(decide (-1≤h.to_∧h.to_≤23)&&decide (h.from_≠h.to_)))&&(decide (0≤h.line∧h.line≤63)&&(decide (0≤h.leg∧h.leg≤8)&&decide (0≤h.many∧h.many≤64)))))=v:=by
  rw [←hv,tmB_eq,tmB_eq,tmB_eq]
  unfold Hd.formed
  have e1:decide (0≤h.from_∧h.from_≤23)=decide (0≤h.from_∧h.from_<24):=decide_eq_decide.2 (by omega)
  have e2:decide (-1≤h.to_∧h.to_≤23)=decide (-1≤h.to_∧h.to_<24):=decide_eq_decide.2 (by omega)
  have e3:decide (0≤h.line∧h.line≤63)=decide (0≤h.line∧h.line<64):=decide_eq_decide.2 (by omega)
  rw [e1,e2,e3]
 clear hv
 generalize decide (0≤h.at_∧h.at_≤2097151)=b1 at *
 generalize decide (0≤h.arrive∧h.arrive≤2097151)=b2 at *
 generalize decide (0≤h.time∧h.time≤2097151)=b3 at *
 generalize decide (0≤h.from_∧h.from_≤23)=b4 at *
 generalize decide (-1≤h.to_∧h.to_≤23)=b5 at *
 generalize decide (0≤h.line∧h.line≤63)=b7 at *
 generalize decide (0≤h.leg∧h.leg≤8)=b8 at *
 generalize decide (0≤h.many∧h.many≤64)=b9 at *
 replace q1:=Lib.hid q1
 replace q2:=Lib.hid q2
 replace q3:=Lib.hid q3
 replace q4:=Lib.hid q4
 replace q5:=Lib.hid q5
 replace q7:=Lib.hid q7
 replace q8:=Lib.hid q8
 replace q9:=Lib.hid q9
 replace hv2:=Lib.hid hv2
 go_enter Tryz.func64,Tryz.ntmps64
 go_upto_region 1 with fail
 generalize W.alloc (.cells cs 53)=w1 at *
 go_cut [3] (fun s3 wc=>s3 = .bool (b1&&(b2&&b3))∧wc=w1)
 case first =>
  clear hv2
  cases b1 <;> cases b2 <;> cases b3 <;>
  ·go_wp2_with (first | (go_at_call 103;(first | (with_reducible refine (q1.out _).mono ?_) | (with_reducible refine (q2.out _).mono ?_) | (with_reducible refine (q3.out _).mono ?_));rintro e w3 ⟨rfl,rfl⟩) | fail)
   go_meet
   exact ⟨rfl,rfl⟩
 case rest =>
  obtain ⟨rfl,rfl⟩:=hcut
  clear q1 q2 q3
  generalize (b1&&(b2&&b3))=B1 at *
  go_upto_region 2 with fail
  go_cut [4] (fun s4 wd=>s4 = .bool (b4&&(b5&&decide (h.from_≠h.to_)))∧wd=wc)
  case first =>
   clear hv2
   generalize h.from_=f4 at *
   generalize h.to_=f5 at *
   by_cases hne:f4=f5
   ·subst hne
    cases b4 <;> cases b5 <;>
    ·go_wp2_with (first | (go_at_call 103;(first | (with_reducible refine (q4.out _).mono ?_) | (with_reducible refine (q5.out _).mono ?_));rintro e w3 ⟨rfl,rfl⟩) | fail)
     go_meet
     exact ⟨by simp,rfl⟩
   ·cases b4 <;> cases b5 <;>
    ·go_wp2_with (first | (go_at_call 103;(first | (with_reducible refine (q4.out _).mono ?_) | (with_reducible refine (q5.out _).mono ?_));rintro e w3 ⟨rfl,rfl⟩) | fail)
     go_meet
     exact ⟨by simp [hne],rfl⟩
  case rest =>
   obtain ⟨rfl,rfl⟩:=hcut
   clear q4 q5
   generalize (b4&&(b5&&decide (h.from_≠h.to_)))=B2 at *
   cases B1 <;> cases B2 <;> cases b7 <;> cases b8 <;> cases b9 <;>
   ·go_wp2_with (first | (go_at_call 103;(first | (with_reducible refine (q7.out _).mono ?_) | (with_reducible refine (q8.out _).mono ?_) | (with_reducible refine (q9.out _).mono ?_));rintro e w3 ⟨rfl,rfl⟩) | fail)
    go_ret
    exact ⟨ret_bool (by rw [←hv2.out];rfl),hb⟩
theorem ints6_ok {x:Ltr} (h:x.ok):∀ y∈x.its,y.ok:=by
 intro y hy
 obtain ⟨⟨h1,h2⟩,⟨h3,h4⟩,h5,h6⟩:=h
 simp [Ltr.its] at hy
 rcases hy with rfl | rfl | rfl | rfl | rfl | rfl
 exact h1;exact h2;exact h3;exact h4;exact h5;exact h6
theorem txt_ok {l:List Ltr} (hok:∀ x∈l,x.ok):∀ t∈l.map Ltr.txt,okB t∧0<t.length∧t.length≤100000000000:=by
 intro t ht
 obtain ⟨x,hx,rfl⟩:=List.mem_map.1 ht
 exact ⟨okB_encN _,encN_pos _,Nat.le_trans (encN_len (ints6_ok (hok x hx)) (by simp [Ltr.its])) (by decide)⟩
theorem ho_root (A:Option Addr) (c:Nat) (l:List Ltr) (hok:∀ x∈l,x.ok) (W:World) (hA:Rd W W.heap.size 6 A l.length (l.flatMap Ltr.cl)) (hn:l.length≤1000) (hG:ShaG W) :
  Calls Tryz.prog 32 #[.slice A l.length c] W (Ret (dig (rootL l)) W):=by
 go_enter Tryz.func32,Tryz.ntmps32
 go_upto_region 1 with fail
 change Code.wp _ _ _ _ (W.alloc (.cells (byts (zerosN 32)).toArray 49))
 have BD:=Blk.new W 49 (byts (zerosN 32)).toArray _ rfl
 have hb:=bAl (bRefl W) (.cells (byts (zerosN 32)).toArray 49)
 generalize W.alloc (.cells (byts (zerosN 32)).toArray 49)=w1 at *
 have q:=leaves_any A l.length c w1
 go_wp2_with fail
 (with_reducible refine q.mono ?_)
 rintro e w2 ⟨rfl,rfl⟩
 have BP:=Blk.new w1 25 #[.slice A l.length c] _ rfl
 have hb2:=bAl hb (.cells #[.slice A l.length c] 25)
 have BD2:=BD.alloc (.cells #[.slice A l.length c] 25)
 clear q BD
 generalize w1.alloc (.cells #[.slice A l.length c] 25)=w2 at *
 have hml:(l.map Ltr.txt).length=l.length:=by simp
 have q2:=col_collect 101 #[.pointer (some ⟨w1.heap.size,0,none⟩)] (enters_of Tryz.func101 (by kernel_rfl) rfl) (l.map Ltr.txt) w2 (by rw [hml];exact hn)
  (by rw [hml];exact leaves_stops w1.heap.size W.heap.size (fun k=>k<w2.heap.size) BP.lt A c l hok w2 (fun k hk=>Nat.lt_of_lt_of_le hk hb2.size) BP (hA.below hb2) hb2.size hn)
 go_wp2_with fail
 (with_reducible refine q2.mono ?_)
 rintro e w3 ⟨v,vs,rfl,hvl,b3,hown,hT⟩
 have hb3:=bCall hb2 b3
 have BD3:=BD2.below b3 BD2.lt
 obtain ⟨A3,c3,rfl,hR3,_⟩:=Sl.of_own hown
 have hX:Hid (dig (rootL l) = .agg (byts (rootN (l.map Ltr.txt))).toArray):=Lib.hid rfl
 have hto:=txt_ok hok
 clear q2 BD2 hown hA
 rw [hvl] at hR3
 have q3:=mk_root A3 c3 (l.map Ltr.txt) vs w3 hR3 (fun k u t hu ht=>(hT k u t hu ht).sl) hto (by rw [hml];exact hn) (hG.below hb3)
 have hln:=(rootN_ok (l.map Ltr.txt)).1
 unfold dig at q3
 generalize rootN (l.map Ltr.txt)=X at *
 rw [hml] at q3
 clear hT hR3 hto
 go_wp2_with fail
 (with_reducible refine q3.mono ?_)
 rintro e w5 ⟨rfl,b5⟩
 have hb5:=bCall hb3 b5
 have BD5:=BD3.below b5 BD3.lt
 clear q3
 dsimp only
 go_step
 refine wpList_store_row rfl 49 (.tmp 2) (.tmp 6) rfl W.heap.size (byts X).toArray rfl rfl 49 _ BD5 (by rw [List.size_toArray,byts_length,hln];exact dig_info) (by rw [List.size_toArray,List.size_toArray,byts_length,byts_length,hln];rfl) (byts_one _) ?_
 have hb9:=below_setRow hb5 (Nat.le_refl _) (byts X).toArray
 have BD9:Blk (w5.setRow W.heap.size (byts X).toArray) W.heap.size 49 (byts X).toArray:=setRow_heap w5 W.heap.size _ _ 49 _ BD5
 go_wp2_with fail
 exact bodyPost_ret (v:=dig X) (results_cell_row rfl _ _ W.heap.size 49 _ (0,0) _ rfl BD9 dig_under rfl (by rw [List.size_toArray,byts_length,hln];exact dig_info)) rfl ⟨by rw [hX.out];rfl,hb9⟩
theorem int_len (n:Int):(It.int n).enc.length≤12:=by
 have:=(numF_len 10 (unsN n)).2
 show (numN (unsN n)).length+1≤_
 unfold numN;omega
theorem text_len (s:ByteArray):(It.text s).enc.length≤12+s.size:=by
 have:=(numF_len 10 s.size).2
 show (numN s.size++sb s).length+1≤_
 rw [List.length_append,sb_len]
 unfold numN;omega
theorem hd_len {h:Hd} (ho:h.ok):h.text.length≤1000000:=by
 have hr:=ho.2.2.2.2.2.2.2.1.1
 have h0:=(numF_len 10 9).2
 have h1:=int_len h.line
 have h2:=int_len h.at_
 have h3:=int_len h.arrive
 have h4:=int_len h.leg
 have h5:=int_len h.from_
 have h6:=int_len h.to_
 have h7:=int_len h.many
 have h8:=int_len h.time
 have h9:=text_len (dgS h.root)
 rw [dgS_size,hr] at h9
 show (3::(numN 9++encL h.its)).length≤_
 unfold numN
 simp only [List.length_cons,List.length_append,encL,Hd.its,List.flatMap_cons,List.flatMap_nil,List.length_nil]
 omega
theorem hand_info:(Tryz.prog.info? 53).map (·.size)=some 42:=by kernel_rfl
theorem ho_handText (h:Hd) (ho:h.ok) (W:World):Calls Tryz.prog 66 #[.agg h.cl.toArray] W (RetSl 1 h.text.length (byts h.text) W):=by
 obtain ⟨cs,hcs⟩:∃ cs,h.cl.toArray=cs:=⟨_,rfl⟩
 have hroot:=(Hd.cells ho).2.2.2.2.2.2.2.1
 obtain ⟨o1,o2,o3,o4,o5,o6,o7,⟨hr1,hr2⟩,o9,_⟩:=id ho
 rw [hcs]
 have BH:=Blk.new W 53 cs _ rfl
 have hb:=bAl (bRefl W) (.cells cs 53)
 obtain ⟨c0,c1,c2,c3,c4,c5,c6,c39,c40,c41⟩:=HdAt.of BH hcs.symm ho
 have hrange:(W.alloc (.cells cs 53)).rangeAt W.heap.size 7 (byts h.root):=fun j v hj=>by
  have hj':j<32:=by have:=(List.getElem?_eq_some_iff.1 hj).1;rw [byts_length,hr1] at this;exact this
  rw [BH.cell,←hcs,List.getElem?_toArray,hroot j hj'];exact hj
 have hT:Hid (h.text=encN ([Tx.run h.line h.at_ h.arrive,.int h.leg,.int h.from_,.int h.to_,.int h.many,.dig h.root,.int h.time].flatMap Tx.its)):=Lib.hid rfl
 generalize h.line=f1 at *
 generalize h.at_=f2 at *
 generalize h.arrive=f3 at *
 generalize h.leg=f4 at *
 generalize h.from_=f5 at *
 generalize h.to_=f6 at *
 generalize h.many=f7 at *
 generalize h.time=f9 at *
 generalize h.root=d at *
 clear hroot hcs ho
 go_enter Tryz.func66,Tryz.ntmps66
 go_upto_region 1 with fail
 generalize W.alloc (.cells cs 53)=w1 at *
 have q:=ho_text (some ⟨w1.heap.size,0,none⟩) 7 7 [.run f1 f2 f3,.int f4,.int f5,.int f6,.int f7,.dig d,.int f9] (w1.alloc (.cells #[.iface 24 (.agg #[.int .i64 f1,.int .i64 f2,.int .i64 f3]),.iface 3 (.int .i64 f4),.iface 3 (.int .i64 f5),.iface 3 (.int .i64 f6),.iface 3 (.int .i64 f7),.iface 49 (.agg (byts d).toArray),.iface 3 (.int .i64 f9)] 20))
  (Rd.new w1 _ _ 1 7 _ rfl rfl) (by intro y hy;simp only [List.mem_cons,List.not_mem_nil,or_false] at hy;rcases hy with rfl | rfl | rfl | rfl | rfl | rfl | rfl;exact ⟨o1,o2,o3⟩;exact o4;exact o5;exact o6;exact o7;exact ⟨hr1,hr2⟩;exact o9) (by decide)
 generalize encN ([Tx.run f1 f2 f3,.int f4,.int f5,.int f6,.int f7,.dig d,.int f9].flatMap Tx.its)=T at *
 clear BH
 apply wp_region_lit
 iterate 48 go_step
 refine wpList_load_mid rfl 49 (.tmp 18) rfl W.heap.size 7 rfl (byts d) _ hrange dig_under rfl (by rw [byts_length,hr1];exact dig_info) ?_
 go_wp2_with fail
 (with_reducible refine q.mono ?_)
 rintro e w5 ⟨v5,rfl,b5,hown⟩
 have hb5:=bCall (bAl hb _) b5
 clear q c0 c1 c2 c3 c4 c5 c6 c39 c40 c41 hrange
 go_wp2_with fail
 go_ret
 exact ⟨_,rfl,hb5,by rw [hT.out];exact Sl.of_own hown⟩
theorem ho_check (key:Int) (h:Hd) (ho:h.ok) (ik:inI key) (W:World) (hG:ShaG W):Calls Tryz.prog 34 #[.int .i64 key,.agg h.cl.toArray] W (Ret (.bool (h.signed key)) W):=by
 have q1:=fun w=>ho_formed h ho w
 have q2:=fun w=>ho_handText h ho w
 obtain ⟨cs,hcs⟩:∃ cs,h.cl.toArray=cs:=⟨_,rfl⟩
 rw [hcs] at q1 q2
 rw [hcs]
 have hcl:cs.size=42:=by rw [←hcs];simpa using Hd.cl_length ho
 have BH:=Blk.new W 53 cs _ rfl
 have hb:=bAl (bRefl W) (.cells cs 53)
 have hlen:=hd_len ho
 have hT0:0<h.text.length:=encN_pos _
 have hTo:okB h.text:=okB_encN _
 have hv:Hid (h.signed key=(h.formed&&sgB key h.text h.e h.s)):=Lib.hid rfl
 have hgl:∀ w',Below (W.alloc (.cells cs 53)).heap.size (W.alloc (.cells cs 53)) w'→(Instr.loadAt 53 (.pointer (some ⟨W.heap.size,0,none⟩))).run Tryz.prog w' = .ok (.agg cs) w'∧w'.cell? ⟨W.heap.size,40,none⟩=some (.int .i64 h.e)∧w'.cell? ⟨W.heap.size,41,none⟩=some (.int .i64 h.s):=fun w' hw=>by
  have B2:=BH.below hw BH.lt
  have hh:=HdAt.of B2 hcs.symm ho
  exact ⟨load_blk B2 Tryz.underlying53 rfl (by rw [hcl];exact hand_info),hh.c40,hh.c41⟩
 have KS:=Lib.hid hgl
 generalize h.text=T at *
 generalize h.e=E at *
 generalize h.s=S at *
 clear hgl BH hcs hcl
 replace q1:=Lib.hid q1
 replace q2:=Lib.hid q2
 cases hf:h.formed with
 | false =>
  rw [hf] at q1 hv
  clear hf
  go_enter Tryz.func34,Tryz.ntmps34
  go_upto_region 1 with fail
  generalize W.alloc (.cells cs 53)=w1 at *
  refine wp_region_schB (f:=8) KS [(0,2),(1,0),(2,1),(3,1),(4,1),(6,1),(7,1),(5,0),(8,3),(9,3),(10,3)] ?_
  simp only [pickS,List.getElem?_cons_zero,List.getElem?_cons_succ]
  refine wpSched_r (v:=?v1) (hv:=?h1) ?_;case h1=>(intro w hSw;(first | refine (exec_load rfl rfl hSw).trans ?_ | refine (exec_load rfl rfl hSw.1).trans ?_ | refine (exec_load rfl rfl hSw.2.1).trans ?_ | refine (exec_load rfl rfl hSw.2.2.1).trans ?_ | refine (exec_load rfl rfl hSw.2).trans ?_ | refine (exec_load rfl rfl hSw.2.2).trans ?_);with_reducible rfl)
  refine wpSched_force (fun K hK=>?_)
  go_simp;(first | (go_at_call 64;(with_reducible refine (q1.out _).mono ?_);rintro e w3 ⟨rfl,b3⟩;have B3:Below w1.heap.size w1 w3:=bCall (bDr (bRefl w1)) b3) | skip)
  refine shut_go hK KS ?_
  clear hK K
  refine wpSched_t ?_
  iterate 4 refine wpSched_p ?_
  refine wpSched_force (fun K hK=>?_)
  go_simp;(first | (go_at_call 64;(with_reducible refine (q1.out _).mono ?_);rintro e w3 ⟨rfl,b3⟩;have B3:Below w1.heap.size w1 w3:=bCall (bDr (bRefl w1)) b3) | skip)
  refine shut_go hK KS ?_
  clear hK K
  refine wpSched_last ?_
  first | simp only [List.map_nil] | simp only [List.map_cons,List.map_nil]
  go_wp2_with fail
  refine NoPanic.normal ?_
  go_wp2_with fail
  go_ret
  exact ⟨ret_bool (by rw [hv.out];rfl),bCall hb B3⟩
 | true =>
  rw [hf] at q1 hv
  clear hf
  go_enter Tryz.func34,Tryz.ntmps34
  go_upto_region 1 with fail
  generalize W.alloc (.cells cs 53)=w1 at *
  refine wp_region_schB (f:=8) KS [(0,2),(1,0),(2,1),(3,1),(4,2),(6,1),(7,2),(5,0),(8,3),(9,3),(10,3)] ?_
  simp only [pickS,List.getElem?_cons_zero,List.getElem?_cons_succ]
  refine wpSched_r (v:=?v2) (hv:=?h2) ?_;case h2=>(intro w hSw;(first | refine (exec_load rfl rfl hSw).trans ?_ | refine (exec_load rfl rfl hSw.1).trans ?_ | refine (exec_load rfl rfl hSw.2.1).trans ?_ | refine (exec_load rfl rfl hSw.2.2.1).trans ?_ | refine (exec_load rfl rfl hSw.2).trans ?_ | refine (exec_load rfl rfl hSw.2.2).trans ?_);with_reducible rfl)
  refine wpSched_force (fun K hK=>?_)
  go_simp;(first | (go_at_call 64;(with_reducible refine (q1.out _).mono ?_);rintro e w3 ⟨rfl,b3⟩;have B3:Below w1.heap.size w1 w3:=bCall (bDr (bRefl w1)) b3) | (go_at_call 66;(with_reducible refine (q2.out _).mono ?_);rintro e w5 ⟨v5,rfl,b5,A5,c5,rfl,hR5,hc5,hc52,hn5⟩;have B5:Below w1.heap.size w1 w5:=bCall B3 b5) | skip)
  refine shut_go hK KS ?_
  clear hK K
  iterate 2 refine wpSched_t ?_
  refine wpSched_r (v:=?v3) (hv:=?h3) ?_;case h3=>(intro w hSw;(first | refine (exec_load rfl rfl hSw).trans ?_ | refine (exec_load rfl rfl hSw.1).trans ?_ | refine (exec_load rfl rfl hSw.2.1).trans ?_ | refine (exec_load rfl rfl hSw.2.2.1).trans ?_ | refine (exec_load rfl rfl hSw.2).trans ?_ | refine (exec_load rfl rfl hSw.2.2).trans ?_);with_reducible rfl)
  refine wpSched_t ?_
  refine wpSched_r ?_
  refine wpSched_force (fun K hK=>?_)
  go_simp;(first | (go_at_call 64;(with_reducible refine (q1.out _).mono ?_);rintro e w3 ⟨rfl,b3⟩;have B3:Below w1.heap.size w1 w3:=bCall (bDr (bRefl w1)) b3) | (go_at_call 66;(with_reducible refine (q2.out _).mono ?_);rintro e w5 ⟨v5,rfl,b5,A5,c5,rfl,hR5,hc5,hc52,hn5⟩;have B5:Below w1.heap.size w1 w5:=bCall B3 b5) | skip)
  refine shut_go hK KS ?_
  clear hK K
  refine wpSched_last ?_
  first | simp only [List.map_nil] | simp only [List.map_cons,List.map_nil]
  have hb5:=bCall hb B5
  have q:=sg_verify key A5 c5 T E S w5 ik hR5 hTo hT0 hlen (hG.below hb5)
  generalize sgB key T E S=r at *
  clear KS q1 q2 hR5
  go_wp2_with fail
  (with_reducible refine q.mono ?_)
  rintro e w6 ⟨rfl,b6⟩
  have hb6:=bCall hb5 b6
  clear q
  go_wp2_with fail
  refine NoPanic.normal ?_
  go_wp2_with fail
  go_ret
  exact ⟨ret_bool (by rw [hv.out];rfl),hb6⟩
theorem eqRun (a b c d e f:Int) (w:World):(binOp .eql 24 (.agg #[.int .i64 a,.int .i64 b,.int .i64 c]) (.agg #[.int .i64 d,.int .i64 e,.int .i64 f])).run Tryz.prog w = .ok (.bool (decide (a=d∧b=e∧c=f))) w:=by
 have hS:Tryz.prog.underlying 24=some (.struct (Tryz.prog.fieldsOf 24)):=by kernel_rfl
 have hp:Tryz.prog.stoodInHeld 24=false:=by kernel_rfl
 have u3:=Tryz.underlying3
 have a3:=Tryz.isAgg3
 have z3:=Tryz.sizeOf3
 have h:(Op.equalIn 10000 24 (.agg #[.int .i64 a,.int .i64 b,.int .i64 c]) (.agg #[.int .i64 d,.int .i64 e,.int .i64 f])).run Tryz.prog w = .ok (decide (a=d∧b=e∧c=f)) w:=by
  rw [show (10000:Nat)=9998+1+1 from rfl,run_equalIn_agg w (9998+1) 24 _ _ hS hp]
  simp only [Program.fieldsOf,Tryz.underlying24]
  go_simp
  by_cases h1:a=d <;> by_cases h2:b=e <;> by_cases h3:c=f <;> simp [h1,h2,h3]
 rw [run_eql_struct,h];rfl
theorem sg1 (bh bc bk:Nat) (h:Hd) (ho:h.ok) (cs:Array Value) (l1 l2 l3:Int) (k:Nat) (W:World) (BH:Blk W bh 53 h.cl.toArray) (BC:Blk W bc 33 cs) (BK:Blk W bk 3 #[.int .i64 k])
  (r1:cs[0]?=some (.int .i64 l1)) (r2:cs[1]?=some (.int .i64 l2)) (r3:cs[2]?=some (.int .i64 l3)) :
  Calls Tryz.prog 29 #[.pointer (some ⟨bh,0,none⟩),.pointer (some ⟨bc,0,none⟩),.pointer (some ⟨bk,0,none⟩)] W (Same (.bool (decide (h.line=l1∧h.at_=l2∧h.arrive=l3)&&decide (h.leg=k))) W):=by
 obtain ⟨c0,c1,c2,c3,_⟩:=HdAt.of BH rfl ho
 have d0:=(BC.cell 0).trans r1
 have d1:=(BC.cell 1).trans r2
 have d2:=(BC.cell 2).trans r3
 have k0:W.cell? ⟨bk,0,none⟩=some (.int .i64 k):=BK.cell 0
 have hq:=fun w=>eqRun h.line h.at_ h.arrive l1 l2 l3 w
 clear BH BC BK r1 r2 r3 ho
 generalize h.line=f1 at *
 generalize h.at_=f2 at *
 generalize h.arrive=f3 at *
 generalize h.leg=f4 at *
 generalize decide (f1=l1∧f2=l2∧f3=l3)=r at *
 by_cases he:f4=(k:Int)
 ·subst he
  cases r
  ·go_enter Tryz.func29,Tryz.ntmps29
   go_wp2_with fail
   go_ret
   exact ⟨rfl,rfl⟩
  ·go_enter Tryz.func29,Tryz.ntmps29
   go_wp2_with fail
   go_ret
   exact ⟨by simp,rfl⟩
 ·cases r
  ·go_enter Tryz.func29,Tryz.ntmps29
   go_wp2_with fail
   go_ret
   exact ⟨rfl,rfl⟩
  ·go_enter Tryz.func29,Tryz.ntmps29
   go_wp2_with fail
   go_ret
   exact ⟨by simp [he],rfl⟩
theorem sg2 (bh bl bk bt:Nat) (h:Hd) (ho:h.ok) (Al:Option Addr) (cl B:Nat) (l:List Int) (k:Nat) (hk:k<l.length) (tt:Int) (W:World) (BH:Blk W bh 53 h.cl.toArray) (BL:Blk W bl 22 #[.slice Al l.length cl]) (BK:Blk W bk 3 #[.int .i64 k]) (BT:Blk W bt 3 #[.int .i64 tt])
  (hl:Rd W B 1 Al l.length (ints l)) (hcl:l.length≤9223372036854775807) :
  Calls Tryz.prog 30 #[.pointer (some ⟨bh,0,none⟩),.pointer (some ⟨bl,0,none⟩),.pointer (some ⟨bk,0,none⟩),.pointer (some ⟨bt,0,none⟩)] W (Ret (.bool (decide (h.from_=offAt l k)&&decide (h.to_=tt))) W):=by
 obtain ⟨c0,c1,c2,c3,c4,c5,_⟩:=HdAt.of BH rfl ho
 have b0:W.cell? ⟨bl,0,none⟩=some (.slice Al l.length cl):=BL.cell 0
 have k0:W.cell? ⟨bk,0,none⟩=some (.int .i64 k):=BK.cell 0
 have t0:W.cell? ⟨bt,0,none⟩=some (.int .i64 tt):=BT.cell 0
 obtain ⟨x,hx⟩:∃ x,Hid (l[k]?=some x):=⟨_,Lib.hid (List.getElem?_eq_getElem hk)⟩
 obtain ⟨b,off,rfl,_,hc⟩:=hl.2 (by omega)
 have d0:W.cell? ⟨b,off+k,none⟩=some (.int .i64 x):=hc k _ (ints_at hx.out)
 have hxo:offAt l k=x:=by unfold offAt;simp [List.getD,hx.out]
 rw [hxo]
 have hi0:(k:Int)<(l.length:Int):=by omega
 have hi1:(0:Int)≤(k:Int):=by omega
 clear BH BL BK BT hc ho hxo hl c0 c1 c2 c3
 generalize h.from_=f4 at *
 generalize h.to_=f5 at *
 by_cases he:f4=x
 ·subst he
  by_cases h2:f5=tt
  ·subst h2
   go_enter Tryz.func30,Tryz.ntmps30
   go_upto_region 1 with fail
   go_quiet (fail)
   go_wp2_with fail
   go_ret
   exact ⟨by simp,bDrN (bRefl _) _⟩
  ·go_enter Tryz.func30,Tryz.ntmps30
   go_upto_region 1 with fail
   go_quiet (fail)
   go_wp2_with fail
   go_ret
   exact ⟨by simp [h2],bDrN (bRefl _) _⟩
 ·go_enter Tryz.func30,Tryz.ntmps30
  go_upto_region 1 with fail
  go_quiet (fail)
  go_wp2_with fail
  go_ret
  exact ⟨by simp [he],bDrN (bRefl _) _⟩
theorem sg3 (bh bj:Nat) (h:Hd) (ho:h.ok) (jc:Array Value) (Am:Option Addr) (cm B:Nat) (mo:List Ltr) (W:World) (BH:Blk W bh 53 h.cl.toArray) (BJ:Blk W bj 55 jc) (hj:jc[4]?=some (.slice Am mo.length cm))
  (hm:Rd W B 6 Am mo.length (mo.flatMap Ltr.cl)) (hB:B≤W.heap.size) (hmo:∀ x∈mo,x.ok) (hml:mo.length≤1000) (hG:ShaG W) :
  Calls Tryz.prog 31 #[.pointer (some ⟨bh,0,none⟩),.pointer (some ⟨bj,0,none⟩)] W (Ret (.bool (decide (h.many=mo.length)&&decide (h.root=rootL mo))) W):=by
 have hr1:=ho.2.2.2.2.2.2.2.1.1
 have hroot:=(Hd.cells ho).2.2.2.2.2.2.2.1
 have KS:Hid (∀ w',Below W.heap.size W w'→(Instr.loadAt 49 (.pointer (some ⟨bh,7,none⟩))).run Tryz.prog w' = .ok (.agg (byts h.root).toArray) w'∧w'.cell? ⟨bh,6,none⟩=some (.int .i64 h.many)∧w'.cell? ⟨bj,4,none⟩=some (.slice Am mo.length cm)):=Lib.hid (fun w' hw=>by
  have BH2:=BH.below hw BH.lt
  refine ⟨load_mid BH2 h.root hr1 (fun j v hv=>?_),(HdAt.of BH2 rfl ho).c6,((BJ.below hw BJ.lt).cell 4).trans hj⟩
  have hj':j<32:=by have:=(List.getElem?_eq_some_iff.1 hv).1;rw [byts_length,hr1] at this;exact this
  rw [List.getElem?_toArray,hroot j hj'];exact hv)
 obtain ⟨_,c6,d4⟩:=KS.out W (bRefl W)
 have hq:=fun w=>run_eqD h.root (rootL mo) hr1 (rootN_ok _).1 w
 have q:=fun w (hw:Below W.heap.size W w)=>ho_root Am cm mo hmo w ((hm.below (hw.mono hB)).more (Nat.le_trans hB hw.size)) hml (hG.below hw)
 unfold dig at q
 replace q:=Lib.hid q
 clear BH BJ ho hroot hj hm
 generalize h.many=f7 at *
 generalize h.root=d at *
 generalize rootL mo=X at *
 by_cases he:f7=(mo.length:Int)
 ·subst he
  have hres:Hid ((decide ((mo.length:Int)=mo.length)&&decide (d=X))=decide (d=X)):=Lib.hid (by simp)
  rw [hres.out]
  generalize decide (d=X)=r at *
  go_enter Tryz.func31,Tryz.ntmps31
  go_upto_region 1 with fail
  clear c6 d4
  refine wp_region_schB (f:=16) KS [(0,1),(1,2),(2,1),(3,1),(4,2),(5,1),(6,1),(7,1),(8,1),(9,2),(10,1),(11,1),(12,2),(13,0),(14,1),(15,1),(16,3)] ?_
  simp only [pickS,List.getElem?_cons_zero,List.getElem?_cons_succ]
  refine wpSched_t ?_
  refine wpSched_r ?_
  iterate 2 refine wpSched_t ?_
  refine wpSched_r ?_
  iterate 4 refine wpSched_t ?_
  refine wpSched_r (v:=?v1) (hv:=?h1) ?_;case h1=>(intro w hSw;(first | refine (exec_load rfl rfl hSw).trans ?_ | refine (exec_load rfl rfl hSw.1).trans ?_ | refine (exec_load rfl rfl hSw.2.1).trans ?_ | refine (exec_load rfl rfl hSw.2.2.1).trans ?_ | refine (exec_load rfl rfl hSw.2).trans ?_ | refine (exec_load rfl rfl hSw.2.2).trans ?_);with_reducible rfl)
  iterate 2 refine wpSched_t ?_
  refine wpSched_r ?_
  refine wpSched_force (fun K hK=>?_)
  go_simp;(first | (go_at_call 32;(with_reducible refine (q.out _ (bDr (bRefl W))).mono ?_);rintro e w5 ⟨rfl,b5⟩;have hb5:Below W.heap.size W w5:=bCall (bDr (bRefl W)) b5) | skip)
  refine shut_go hK KS ?_
  clear hK K
  iterate 2 refine wpSched_t ?_
  refine wpSched_last ?_
  first | simp only [List.map_nil] | simp only [List.map_cons,List.map_nil]
  go_wp2_with fail
  refine NoPanic.normal ?_
  go_wp2_with fail
  go_ret
  exact ⟨rfl,hb5⟩
 ·have hres:Hid ((decide (f7=mo.length)&&decide (d=X))=false):=Lib.hid (by simp [he])
  rw [hres.out]
  go_enter Tryz.func31,Tryz.ntmps31
  clear KS q
  go_upto_region 1 with fail
  go_quiet (fail)
  go_wp2_with fail
  go_ret
  exact ⟨ret_bool (by simp),bDrN (bRefl _) _⟩
theorem sg4 (bc bk bh:Nat) (h:Hd) (ho:h.ok) (cs:Array Value) (Ak:Option Addr) (ck B:Nat) (keys:List Int) (k:Nat) (hk:k<keys.length) (W:World) (BH:Blk W bh 53 h.cl.toArray) (BC:Blk W bc 33 cs) (BK:Blk W bk 3 #[.int .i64 k])
  (hc4:cs[4]?=some (.slice Ak keys.length ck)) (hkk:Rd W B 1 Ak keys.length (ints keys)) (hB:B≤W.heap.size) (hko:∀ x∈keys,inI x) (hcl:keys.length≤9223372036854775807) (hG:ShaG W) :
  Calls Tryz.prog 33 #[.pointer (some ⟨bc,0,none⟩),.pointer (some ⟨bk,0,none⟩),.pointer (some ⟨bh,0,none⟩)] W (Ret (.bool (h.signed (keys.getD k 0))) W):=by
 obtain ⟨x,hx⟩:∃ x,Hid (keys[k]?=some x):=⟨_,Lib.hid (List.getElem?_eq_getElem hk)⟩
 have hxo:keys.getD k 0=x:=by simp [List.getD,hx.out]
 have hxi:=hko x (List.mem_of_getElem? hx.out)
 rw [hxo]
 obtain ⟨b,off,rfl,hbb,hc⟩:=hkk.2 (by omega)
 have d0:W.cell? ⟨b,off+k,none⟩=some (.int .i64 x):=hc k _ (ints_at hx.out)
 have hlen:h.cl.toArray.size=42:=by simpa using Hd.cl_length ho
 have q:=fun w (hw:Below W.heap.size W w)=>ho_check x h ho hxi w (hG.below hw)
 obtain ⟨cs2,hcs⟩:∃ cs,h.cl.toArray=cs:=⟨_,rfl⟩
 rw [hcs] at q BH hlen
 have KS:Hid (∀ w',Below W.heap.size W w'→(Instr.loadAt 53 (.pointer (some ⟨bh,0,none⟩))).run Tryz.prog w' = .ok (.agg cs2) w'∧w'.cell? ⟨bc,4,none⟩=some (.slice (some ⟨b,off,none⟩) keys.length ck)∧w'.cell? ⟨bk,0,none⟩=some (.int .i64 k)∧w'.cell? ⟨b,off+k,none⟩=some (.int .i64 x)) :=
  Lib.hid (fun w' hw=>⟨load_blk (BH.below hw BH.lt) Tryz.underlying53 rfl (by rw [hlen];exact hand_info),((BC.below hw BC.lt).cell 4).trans hc4,(BK.below hw BK.lt).cell 0,(hw.cell (p:=⟨b,off+k,none⟩) (by show b<_;omega)).trans d0⟩)
 have hi0:(k:Int)<(keys.length:Int):=by omega
 have hi1:(0:Int)≤(k:Int):=by omega
 generalize h.signed x=r at *
 clear BH BC BK hc hc4 hkk d0 hcs
 replace q:=Lib.hid q
 go_enter Tryz.func33,Tryz.ntmps33
 go_upto_region 1 with fail
 refine wp_region_schB (f:=6) KS [(0,1),(1,2),(2,2),(3,1),(4,2),(5,2),(6,3),(7,3)] ?_
 simp only [pickS,List.getElem?_cons_zero,List.getElem?_cons_succ]
 refine wpSched_t ?_
 iterate 2 refine wpSched_r ?_
 refine wpSched_t ?_
 refine wpSched_r ?_
 refine wpSched_r (v:=?v2) (hv:=?h2) ?_;case h2=>(intro w hSw;(first | refine (exec_load rfl rfl hSw).trans ?_ | refine (exec_load rfl rfl hSw.1).trans ?_ | refine (exec_load rfl rfl hSw.2.1).trans ?_ | refine (exec_load rfl rfl hSw.2.2.1).trans ?_ | refine (exec_load rfl rfl hSw.2).trans ?_ | refine (exec_load rfl rfl hSw.2.2).trans ?_);with_reducible rfl)
 refine wpSched_last ?_
 first | simp only [List.map_nil] | simp only [List.map_cons,List.map_nil]
 have q2:=q.out W.drew (bDr (bRefl W))
 clear q KS
 go_wp2_with fail
 (with_reducible refine q2.mono ?_)
 rintro e w5 ⟨rfl,b5⟩
 have hb5:=bCall (bDr (bRefl W)) b5
 clear q2
 go_wp2_with fail
 refine NoPanic.normal ?_
 go_wp2_with fail
 go_ret
 exact ⟨rfl,hb5⟩
end Go.Proofs.YtoeobcmmafncmaaGreatDoor

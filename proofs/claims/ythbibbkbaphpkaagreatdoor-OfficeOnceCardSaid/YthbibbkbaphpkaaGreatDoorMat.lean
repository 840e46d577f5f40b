/- handover: between, formed; walked. -/
import Derived.Test.YthbibbkbaphpkaaGreatDoorMao
import Derived.Test.YthbibbkbaphpkaaGreatDoorMas
import Derived.Test.YthbibbkbaphpkaaGreatDoorMap
set_option maxHeartbeats 16000000
set_option maxRecDepth 1000000
namespace Go.Proofs.YthbibbkbaphpkaaGreatDoor
open _root_.Go.Proofs.Tryz
section
open Go.RowKit
theorem ja (x a b:Int) (W:World):Calls prog 99 #[.int .i64 x,.int .i64 a,.int .i64 b] W (Same (.bool (decide (a≤x∧x≤b))) W):=by
 by_cases h1:a≤x
 ·by_cases h2 : x ≤ b
  ·have e:Hid (decide (a≤x∧x≤b)=true):=aab (decide_eq_true ⟨h1,h2⟩)
   go_enter func99,ntmps99;go_wp2_with fail;go_ret;exact ⟨aI (by rw [e.out]),rfl⟩
  ·have e:Hid (decide (a≤x∧x≤b)=false):=aab (decide_eq_false (by omega))
   go_enter func99,ntmps99;go_wp2_with fail;go_ret;exact ⟨aI (by simp;try omega),rfl⟩
 ·have e:Hid (decide (a≤x∧x≤b)=false):=aab (decide_eq_false (by omega))
  go_enter func99,ntmps99;go_wp2_with fail;go_ret;exact ⟨aI (by simp;try omega),rfl⟩
structure HdAt (w:World) (g:Nat) (h:Hd):Prop where
 c0:w.cell? ⟨g,0,none⟩=some (.int .i64 h.line)
 c1:w.cell? ⟨g,1,none⟩=some (.int .i64 h.at_)
 c2:w.cell? ⟨g,2,none⟩=some (.int .i64 h.arrive)
 c3:w.cell? ⟨g,3,none⟩=some (.int .i64 h.leg)
 c4:w.cell? ⟨g,4,none⟩=some (.int .i64 h.from_)
 c5:w.cell? ⟨g,5,none⟩=some (.int .i64 h.to_)
 c6:w.cell? ⟨g,6,none⟩=some (.int .i64 h.many)
 c39:w.cell? ⟨g,39,none⟩=some (.int .i64 h.time)
 c40:w.cell? ⟨g,40,none⟩=some (.int .i64 h.e)
 c41:w.cell? ⟨g,41,none⟩=some (.int .i64 h.s)
theorem HdAt.of {w:World} {g:Nat} {t:TypeId} {h:Hd} {cs:Array Value} (B:Blk w g t cs) (e:cs=h.cl.toArray) (ho:h.ok):HdAt w g h:=by
 subst e;obtain ⟨h0,h1,h2,h3,h4,h5,h6,_,h39,h40,h41⟩:=Hd.cells ho;have k:∀ i v,h.cl[i]?=some v→w.cell? ⟨g,i,none⟩=some v:=fun i v hv=>by rw [B.cell i];simpa using hv
 exact ⟨k _ _ h0,k _ _ h1,k _ _ h2,k _ _ h3,k _ _ h4,k _ _ h5,k _ _ h6,k _ _ h39,k _ _ h40,k _ _ h41⟩
theorem KL (n:Int):decide (0≤n∧n≤2097151)=tmB n:=by
 unfold tmB;rw [←Bool.decide_and];apply decide_eq_decide.2;omega
theorem Es (h:Hd) (ho:h.ok) (W:World):Calls prog 100 #[.agg h.cl.toArray] W (Ret (.bool h.formed) W):=by
 obtain ⟨cs,hcs⟩:∃ cs,h.cl.toArray=cs:=⟨_,rfl⟩
 rw [hcs];have BH:=Blk.new W 33 cs _ rfl;have hb:=bAl (aj W) (.cells cs 33);obtain ⟨c0,c1,c2,c3,c4,c5,c6,c39,c40,c41⟩:=HdAt.of BH hcs.symm ho;have q1:=fun w=>ja h.at_ 0 2097151 w;have q2:=fun w=>ja h.arrive 0 2097151 w;have q3:=fun w=>ja h.time 0 2097151 w;have q4:=fun w=>ja h.from_ 0 23 w;have q5:=fun w=>ja h.to_ (-1) 23 w;have q7:=fun w=>ja h.line 0 63 w;have q8:=fun w=>ja h.leg 0 8 w;have q9:=fun w=>ja h.many 0 64 w;obtain ⟨v,hv⟩:∃ v,h.formed=v:=⟨_,rfl⟩
 rw [hv]
 have hv2:((decide (0≤h.at_∧h.at_≤2097151)&&(decide (0≤h.arrive∧h.arrive≤2097151)&&decide (0≤h.time∧h.time≤2097151)))&&((decide (0≤h.from_∧h.from_≤23)&&(decide (-1≤h.to_∧h.to_≤23)&&decide (h.from_≠h.to_)))&&(decide (0≤h.line∧h.line≤63)&&(decide (0≤h.leg∧h.leg≤8)&&decide (0≤h.many∧h.many≤64)))))=v:=by
  rw [←hv,KL,KL,KL];unfold Hd.formed;have e1:decide (0≤h.from_∧h.from_≤23)=decide (0≤h.from_∧h.from_<24):=decide_eq_decide.2 (by omega);have e2:decide (-1≤h.to_∧h.to_≤23)=decide (-1≤h.to_∧h.to_<24):=decide_eq_decide.2 (by omega);have e3:decide (0≤h.line∧h.line≤63)=decide (0≤h.line∧h.line<64):=decide_eq_decide.2 (by omega);rw [e1,e2,e3]
 clear hv;generalize decide (0≤h.at_∧h.at_≤2097151)=b1 at *;generalize decide (0≤h.arrive∧h.arrive≤2097151)=b2 at *;generalize decide (0≤h.time∧h.time≤2097151)=b3 at *;generalize decide (0≤h.from_∧h.from_≤23)=b4 at *;generalize decide (-1≤h.to_∧h.to_≤23)=b5 at *;generalize decide (0≤h.line∧h.line≤63)=b7 at *;generalize decide (0≤h.leg∧h.leg≤8)=b8 at *;generalize decide (0≤h.many∧h.many≤64)=b9 at *;replace q1:=aab q1;replace q2:=aab q2;replace q3:=aab q3;replace q4:=aab q4;replace q5:=aab q5;replace q7:=aab q7;replace q8:=aab q8;replace q9:=aab q9;replace hv2:=aab hv2;go_enter func100,ntmps100;go_upto_region 1 with fail;generalize W.alloc (.cells cs 33)=w1 at *;go_cut [3] (fun s3 wc=>s3 = .bool (b1&&(b2&&b3))∧wc=w1)
 case first =>
  clear hv2;cases b1 <;> cases b2 <;> cases b3 <;>
  ·go_wp2_with (first | (go_at_call 99;(first | (with_reducible refine (q1.out _).mono ?_) | (with_reducible refine (q2.out _).mono ?_) | (with_reducible refine (q3.out _).mono ?_));rintro e w3 ⟨rfl,rfl⟩) | fail)
   go_meet;exact ⟨rfl,rfl⟩
 case rest =>
  obtain ⟨rfl,rfl⟩:=hcut;clear q1 q2 q3;generalize (b1&&(b2&&b3))=B1 at *;go_upto_region 2 with fail;go_cut [4] (fun s4 wd=>s4 = .bool (b4&&(b5&&decide (h.from_≠h.to_)))∧wd=wc)
  case first =>
   clear hv2;generalize h.from_=f4 at *;generalize h.to_=f5 at *;by_cases hne:f4=f5
   ·subst hne
    cases b4 <;> cases b5 <;>
    ·go_wp2_with (first | (go_at_call 99;(first | (with_reducible refine (q4.out _).mono ?_) | (with_reducible refine (q5.out _).mono ?_));rintro e w3 ⟨rfl,rfl⟩) | fail)
     go_meet;exact ⟨by simp,rfl⟩
   ·cases b4 <;> cases b5 <;>
    ·go_wp2_with (first | (go_at_call 99;(first | (with_reducible refine (q4.out _).mono ?_) | (with_reducible refine (q5.out _).mono ?_));rintro e w3 ⟨rfl,rfl⟩) | fail)
     go_meet;exact ⟨by simp [hne],rfl⟩
  case rest =>
   obtain ⟨rfl,rfl⟩:=hcut;clear q4 q5;generalize (b4&&(b5&&decide (h.from_≠h.to_)))=B2 at *;cases B1 <;> cases B2 <;> cases b7 <;> cases b8 <;> cases b9 <;>
   ·go_wp2_with (first | (go_at_call 99;(first | (with_reducible refine (q7.out _).mono ?_) | (with_reducible refine (q8.out _).mono ?_) | (with_reducible refine (q9.out _).mono ?_));rintro e w3 ⟨rfl,rfl⟩) | fail)
    go_ret;exact ⟨aI (by rw [←hv2.out];rfl),hb⟩
theorem SA {x:Ltr} (h:x.ok):∀ y∈x.its,y.ok:=by
 intro y hy;obtain ⟨⟨h1,h2⟩,⟨h3,h4⟩,h5,h6⟩:=h;simp [Ltr.its] at hy;rcases hy with rfl | rfl | rfl | rfl | rfl | rfl
 exact h1;exact h2;exact h3;exact h4;exact h5;exact h6
theorem Wq {l:List Ltr} (hok:∀ x∈l,x.ok):∀ t∈l.map Ltr.txt,okB t∧0<t.length∧t.length≤100000000000:=by
 intro t ht;obtain ⟨x,hx,rfl⟩:=aaK.1 ht;exact ⟨iI _,xh _,aaj (jZ (SA (hok x hx)) (by simp [Ltr.its])) (by decide)⟩
theorem NE (A:Option Addr) (c:Nat) (l:List Ltr) (hok:∀ x∈l,x.ok) (W:World) (hA:Rd W W.heap.size 6 A l.length (l.flatMap Ltr.cl)) (hn:l.length≤1000) (hG:ShaG W) :
  Calls prog 25 #[.slice A l.length c] W (Ret (dig (kN l)) W):=by
 go_enter func25,ntmps25;go_upto_region 1 with fail;change Code.wp _ _ _ _ (W.alloc (.cells (ag (aF 32)).toArray 29));have BD:=Blk.new W 29 (ag (aF 32)).toArray _ rfl;have hb:=bAl (aj W) (.cells (ag (aF 32)).toArray 29);generalize W.alloc (.cells (ag (aF 32)).toArray 29)=w1 at *;have q:=KF A l.length c w1;go_wp2_with fail;refine q.mono ?_;rintro e w2 ⟨rfl,rfl⟩;have BP:=Blk.new w1 34 #[.slice A l.length c] _ rfl;have hb2:=bAl hb (.cells #[.slice A l.length c] 34);have BD2:=BD.alloc (.cells #[.slice A l.length c] 34);clear q BD;generalize w1.alloc (.cells #[.slice A l.length c] 34)=w2 at *;have hml:(l.map Ltr.txt).length=l.length:=by simp
 have q2:=IB 172 #[.pointer (some ⟨w1.heap.size,0,none⟩)] (enters_of func172 (by kernel_rfl) rfl) (l.map Ltr.txt) w2 (by rw [hml];exact hn)
  (by rw [hml];exact FO w1.heap.size W.heap.size (fun k=>k<w2.heap.size) BP.lt A c l hok w2 (fun k hk=>aaS hk hb2.size) BP (hA.below hb2) hb2.size hn)
 go_wp2_with fail;refine q2.mono ?_;rintro e w3 ⟨v,vs,rfl,hvl,b3,hown,hT⟩;have hb3:=ah hb2 b3;have BD3:=BD2.below b3 BD2.lt;obtain ⟨A3,c3,rfl,hR3,_⟩:=Sl.of_own hown;have hX:Hid (dig (kN l) = .agg (ag (uC (l.map Ltr.txt))).toArray):=aab rfl;have hto:=Wq hok;clear q2 BD2 hown hA;rw [hvl] at hR3;have q3:=U6 A3 c3 (l.map Ltr.txt) vs w3 hR3 (fun k u t hu ht=>(hT k u t hu ht).sl) hto (by rw [hml];exact hn) (hG.below hb3);have hln:=(wO (l.map Ltr.txt)).1;unfold dig at q3;generalize uC (l.map Ltr.txt)=X at *;rw [hml] at q3;clear hT hR3 hto;go_wp2_with fail;refine q3.mono ?_;rintro e w5 ⟨rfl,b5⟩;have hb5:=ah hb3 b5;have BD5:=BD3.below b5 BD3.lt;clear q3;dsimp only;go_step;refine wpList_store_row rfl 29 (.tmp 2) (.tmp 6) rfl W.heap.size (ag X).toArray rfl rfl 29 _ BD5 (by rw [aae,ai,hln];exact aW) (by rw [aae,aae,ai,ai,hln];rfl) (fK _) ?_;have hb9:=below_setRow hb5 (aad _) (ag X).toArray;have BD9:Blk (w5.setRow W.heap.size (ag X).toArray) W.heap.size 29 (ag X).toArray:=setRow_heap w5 W.heap.size _ _ 29 _ BD5;go_wp2_with fail;exact bodyPost_ret (v:=dig X) (results_cell_row rfl _ _ W.heap.size 29 _ (0,0) _ rfl BD9 bQ rfl (by rw [aae,ai,hln];exact aW)) rfl ⟨by rw [hX.out];rfl,hb9⟩
theorem oJ (n:Int):(It.int n).enc.length≤12:=by
 have:=(fP 10 (mQ n)).2
 show (iV (mQ n)).length+1≤_;unfold iV;omega
theorem SB (s:ByteArray):(It.text s).enc.length≤12+s.size:=by
 have:=(fP 10 s.size).2
 show (iV s.size++sb s).length+1≤_;rw [aan,uN];unfold iV;omega
theorem SC {h:Hd} (ho:h.ok):h.text.length≤1000000:=by
 have hr:=ho.2.2.2.2.2.2.2.1.1;have h0:=(fP 10 9).2;have h1:=oJ h.line;have h2:=oJ h.at_;have h3:=oJ h.arrive;have h4:=oJ h.leg;have h5:=oJ h.from_;have h6:=oJ h.to_;have h7:=oJ h.many;have h8:=oJ h.time;have h9:=SB (dgS h.root);rw [sH,hr] at h9;show (3::(iV 9++jA h.its)).length≤_;unfold iV;simp only [aas,aan,jA,Hd.its,aaF,List.flatMap_nil,List.length_nil];omega
theorem cO:(prog.info? 33).map (·.size)=some 42:=by kernel_rfl
theorem zn (h:Hd) (ho:h.ok) (W:World):Calls prog 102 #[.agg h.cl.toArray] W (kL 1 h.text.length (ag h.text) W):=by
 obtain ⟨cs,hcs⟩:∃ cs,h.cl.toArray=cs:=⟨_,rfl⟩
 have hroot:=(Hd.cells ho).2.2.2.2.2.2.2.1;obtain ⟨o1,o2,o3,o4,o5,o6,o7,⟨hr1,hr2⟩,o9,_⟩:=id ho;rw [hcs];have BH:=Blk.new W 33 cs _ rfl;have hb:=bAl (aj W) (.cells cs 33);obtain ⟨c0,c1,c2,c3,c4,c5,c6,c39,c40,c41⟩:=HdAt.of BH hcs.symm ho
 have hrange:(W.alloc (.cells cs 33)).rangeAt W.heap.size 7 (ag h.root):=fun j v hj=>by
  have hj':j<32:=by have:=(aag.1 hj).1;rw [ai,hr1] at this;exact this
  rw [BH.cell,←hcs,aaG,hroot j hj'];exact hj
 have hT:Hid (h.text=bZ ([Tx.run h.line h.at_ h.arrive,.int h.leg,.int h.from_,.int h.to_,.int h.many,.dig h.root,.int h.time].flatMap Tx.its)):=aab rfl;generalize h.line=f1 at *;generalize h.at_=f2 at *;generalize h.arrive=f3 at *;generalize h.leg=f4 at *;generalize h.from_=f5 at *;generalize h.to_=f6 at *;generalize h.many=f7 at *;generalize h.time=f9 at *;generalize h.root=d at *;clear hroot hcs ho;go_enter func102,ntmps102;go_upto_region 1 with fail;generalize W.alloc (.cells cs 33)=w1 at *
 have q:=ND (some ⟨w1.heap.size,0,none⟩) 7 7 [.run f1 f2 f3,.int f4,.int f5,.int f6,.int f7,.dig d,.int f9] (w1.alloc (.cells #[.iface 27 (.agg #[.int .i64 f1,.int .i64 f2,.int .i64 f3]),.iface 3 (.int .i64 f4),.iface 3 (.int .i64 f5),.iface 3 (.int .i64 f6),.iface 3 (.int .i64 f7),.iface 29 (.agg (ag d).toArray),.iface 3 (.int .i64 f9)] 20))
  (Rd.new w1 _ _ 1 7 _ rfl rfl) (by intro y hy;simp only [aaq,aaw,or_false] at hy;rcases hy with rfl | rfl | rfl | rfl | rfl | rfl | rfl;exact ⟨o1,o2,o3⟩;exact o4;exact o5;exact o6;exact o7;exact ⟨hr1,hr2⟩;exact o9) (by decide)
 generalize bZ ([Tx.run f1 f2 f3,.int f4,.int f5,.int f6,.int f7,.dig d,.int f9].flatMap Tx.its)=T at *;clear BH;apply wp_region_lit
 iterate 48 go_step
 refine wpList_load_mid rfl 29 (.tmp 18) rfl W.heap.size 7 rfl (ag d) _ hrange bQ rfl (by rw [ai,hr1];exact aW) ?_;go_wp2_with fail;refine q.mono ?_;rintro e w5 ⟨v5,rfl,b5,hown⟩;have hb5:=ah (bAl hb _) b5;clear q c0 c1 c2 c3 c4 c5 c6 c39 c40 c41 hrange;go_wp2_with fail;go_ret;exact ⟨_,rfl,hb5,by rw [hT.out];exact Sl.of_own hown⟩
theorem SG (key:Int) (h:Hd) (ho:h.ok) (ik:inI key) (W:World) (hG:ShaG W):Calls prog 34 #[.int .i64 key,.agg h.cl.toArray] W (Ret (.bool (h.signed key)) W):=by
 have q1:=fun w=>Es h ho w;have q2:=fun w=>zn h ho w;obtain ⟨cs,hcs⟩:∃ cs,h.cl.toArray=cs:=⟨_,rfl⟩
 rw [hcs] at q1 q2;rw [hcs];have hcl:cs.size=42:=by rw [←hcs];simpa using Hd.cl_length ho
 have BH:=Blk.new W 33 cs _ rfl;have hb:=bAl (aj W) (.cells cs 33);have hlen:=SC ho;have hT0:0<h.text.length:=xh _;have hTo:okB h.text:=iI _;have hv:Hid (h.signed key=(h.formed&&sgB key h.text h.e h.s)):=aab rfl
 have hgl:∀ w',Below (W.alloc (.cells cs 33)).heap.size (W.alloc (.cells cs 33)) w'→(Instr.loadAt 33 (.pointer (some ⟨W.heap.size,0,none⟩))).run prog w' = .ok (.agg cs) w'∧w'.cell? ⟨W.heap.size,40,none⟩=some (.int .i64 h.e)∧w'.cell? ⟨W.heap.size,41,none⟩=some (.int .i64 h.s):=fun w' hw=>by
  have B2:=BH.below hw BH.lt;have hh:=HdAt.of B2 hcs.symm ho;exact ⟨bg B2 underlying33 rfl (by rw [hcl];exact cO),hh.c40,hh.c41⟩
 have KS:=aab hgl;generalize h.text=T at *;generalize h.e=E at *;generalize h.s=S at *;clear hgl BH hcs hcl;replace q1:=aab q1;replace q2:=aab q2;cases hf:h.formed with
 | false =>
  rw [hf] at q1 hv;clear hf;go_enter func34,ntmps34;go_upto_region 1 with fail;generalize W.alloc (.cells cs 33)=w1 at *;refine aK (f:=8) KS [(0,2),(1,0),(2,1),(3,1),(4,1),(6,1),(7,1),(5,0),(8,3),(9,3),(10,3)] ?_;simp only [bf,aap,aar];refine ax (v:=?vq1) (hv:=?hq1) ?_;case hq1=>(intro w hSw;(first | refine (af rfl rfl hSw).trans ?_ | refine (af rfl rfl hSw.1).trans ?_ | refine (af rfl rfl hSw.2.1).trans ?_ | refine (af rfl rfl hSw.2.2.1).trans ?_ | refine (af rfl rfl hSw.2).trans ?_ | refine (af rfl rfl hSw.2.2).trans ?_);with_reducible rfl)
  refine au (fun K hK=>?_);go_simp;(first | (go_at_call 100;(with_reducible refine (q1.out _).mono ?_);rintro e w3 ⟨rfl,b3⟩;have B3:Below w1.heap.size w1 w3:=ah (bDr (aj w1)) b3) | skip);refine aH hK KS ?_;clear hK K;refine ak ?_
  iterate 4 refine dC ?_
  refine au (fun K hK=>?_);go_simp;(first | (go_at_call 100;(with_reducible refine (q1.out _).mono ?_);rintro e w3 ⟨rfl,b3⟩;have B3:Below w1.heap.size w1 w3:=ah (bDr (aj w1)) b3) | skip);refine aH hK KS ?_;clear hK K;refine aN ?_
  first | simp only [aak] | simp only [aat,aak]
  go_wp2_with fail;refine NoPanic.normal ?_;go_wp2_with fail;go_ret;exact ⟨aI (by rw [hv.out];rfl),ah hb B3⟩
 | true =>
  rw [hf] at q1 hv;clear hf;go_enter func34,ntmps34;go_upto_region 1 with fail;generalize W.alloc (.cells cs 33)=w1 at *;refine aK (f:=8) KS [(0,2),(1,0),(2,1),(3,1),(4,2),(6,1),(7,2),(5,0),(8,3),(9,3),(10,3)] ?_;simp only [bf,aap,aar];refine ax (v:=?vq2) (hv:=?hq2) ?_;case hq2=>(intro w hSw;(first | refine (af rfl rfl hSw).trans ?_ | refine (af rfl rfl hSw.1).trans ?_ | refine (af rfl rfl hSw.2.1).trans ?_ | refine (af rfl rfl hSw.2.2.1).trans ?_ | refine (af rfl rfl hSw.2).trans ?_ | refine (af rfl rfl hSw.2.2).trans ?_);with_reducible rfl)
  refine au (fun K hK=>?_);go_simp;(first | (go_at_call 100;(with_reducible refine (q1.out _).mono ?_);rintro e w3 ⟨rfl,b3⟩;have B3:Below w1.heap.size w1 w3:=ah (bDr (aj w1)) b3) | (go_at_call 102;(with_reducible refine (q2.out _).mono ?_);rintro e w5 ⟨v5,rfl,b5,A5,c5,rfl,hR5,hc5,hc52,hn5⟩;have B5:Below w1.heap.size w1 w5:=ah B3 b5) | skip);refine aH hK KS ?_;clear hK K
  iterate 2 refine ak ?_
  refine ax (v:=?vq3) (hv:=?hq3) ?_;case hq3=>(intro w hSw;(first | refine (af rfl rfl hSw).trans ?_ | refine (af rfl rfl hSw.1).trans ?_ | refine (af rfl rfl hSw.2.1).trans ?_ | refine (af rfl rfl hSw.2.2.1).trans ?_ | refine (af rfl rfl hSw.2).trans ?_ | refine (af rfl rfl hSw.2.2).trans ?_);with_reducible rfl)
  refine ak ?_;refine ax ?_;refine au (fun K hK=>?_);go_simp;(first | (go_at_call 100;(with_reducible refine (q1.out _).mono ?_);rintro e w3 ⟨rfl,b3⟩;have B3:Below w1.heap.size w1 w3:=ah (bDr (aj w1)) b3) | (go_at_call 102;(with_reducible refine (q2.out _).mono ?_);rintro e w5 ⟨v5,rfl,b5,A5,c5,rfl,hR5,hc5,hc52,hn5⟩;have B5:Below w1.heap.size w1 w5:=ah B3 b5) | skip);refine aH hK KS ?_;clear hK K;refine aN ?_
  first | simp only [aak] | simp only [aat,aak]
  have hb5:=ah hb B5;have q:=Pv key A5 c5 T E S w5 ik hR5 hTo hT0 hlen (hG.below hb5);generalize sgB key T E S=r at *;clear KS q1 q2 hR5;go_wp2_with fail;refine q.mono ?_;rintro e w6 ⟨rfl,b6⟩;have hb6:=ah hb5 b6;clear q;go_wp2_with fail;refine NoPanic.normal ?_;go_wp2_with fail;go_ret;exact ⟨aI (by rw [hv.out];rfl),hb6⟩
def mJ (s:Int) (h:Hd):Hd:={ h with e:=qR s h.text,s:=sJ s h.text }
def uF (s:Int) (h:Hd):Hd:=if h.formed=true then mJ s h else dM
def CE (h:Hd):Int:=if h.formed=true then 0 else 480
theorem qg:dM.ok:=by
 have z:inI 0:=by unfold inI;omega
 exact ⟨z,z,z,z,z,z,z,⟨by rfl,fun x hx=>by obtain rfl:=List.eq_of_mem_replicate hx;decide⟩,z,z,z⟩
theorem CG {s:Int} {h:Hd} (ho:h.ok):(mJ s h).ok:=by
 obtain ⟨h0,h1,h2,h3,h4,h5,h6,h7,h8,_,_⟩:=ho
 have:=Iy s h.text
 have:=Iz s h.text
 refine ⟨h0,h1,h2,h3,h4,h5,h6,h7,h8,?_,?_⟩
 ·show inI (qR s h.text);unfold inI;omega
 ·show inI (sJ s h.text);unfold inI;omega
theorem SH {s:Int} {h:Hd} (ho:h.ok):(h.cl.toArray.setIfInBounds 40 (.int .i64 (qR s h.text))).setIfInBounds 41 (.int .i64 (sJ s h.text))=(mJ s h).cl.toArray:=by
 have hr:(ag h.root).length=32:=by rw [ai,ho.2.2.2.2.2.2.2.1.1]
 rw [aaf,aaf];congr 1;simp [Hd.cl,hr,mJ]
theorem xk {P:Program} {fn:Func} {p u:Tmp} {ty:TypeId} (h:fn.results=#[.cell p ty,.tmp u]) (tmps:Array Value) (w:World) (g:Nat) (t:TypeId) (cs:Array Value) (fr:Nat×Nat) (d:TypeDesc)
  (hp:tmps.getD p undef = .pointer (some ⟨g,0,none⟩)) (hg:w.heap[g]?=some (.cells cs t fr))
  (hu:P.underlying ty=some d) (hd:(match d with | .struct _ | .array _ _=>true | _=>false)=true) (hi:(P.info? ty).map (·.size)=some cs.size) {v:Value} (hv:tmps.getD u undef=v) :
  (results fn tmps).run P w = .ok (.tuple #[.agg cs,v]) w:=by
 subst hv;have hp':tmps[p]?.getD undef = .pointer (some ⟨g,0,none⟩):=by simpa using hp
 simp [results,h,hp',asAddr,run_loadVar_row w g t ty cs fr d hg hu hd hi]
theorem NG (s:Int) (hs:iO s=true) (h:Hd) (ho:h.ok) (W:World) (hG:ShaG W):Calls prog 26 #[.int .i64 s,.agg h.cl.toArray] W (Ret (.tuple #[.agg (uF s h).cl.toArray,.int .i64 (CE h)]) W):=by
 have q1:=fun w=>Es h ho w;have q2:=fun w=>zn h ho w;have hz:Hid (dM.cl.toArray.size=42):=aab (by simpa using Hd.cl_length qg);have hzo:Hid (∀ v∈dM.cl.toArray.toList,v.oneCell'=true):=aab (by simpa using Hd.one dM);have hsl:Hid ((mJ s h).cl.toArray.size=42):=aab (by simpa using Hd.cl_length (CG (s:=s) ho));have hs1:Hid (∀ v∈(mJ s h).cl.toArray.toList,v.oneCell'=true):=aab (by simpa using Hd.one (mJ s h));have hcl:Hid (h.cl.toArray.size=42):=aab (by simpa using Hd.cl_length ho);have q0:=aab (ja s 1 1073741788);obtain ⟨s1,s2⟩:=rO hs;rw [decide_eq_true (show 1≤s∧s≤1073741788 by omega)] at q0;have BH:Blk ((W.alloc (.cells h.cl.toArray 33)).alloc (.cells dM.cl.toArray 33)) W.heap.size 33 h.cl.toArray:=(Blk.new W 33 h.cl.toArray _ rfl).alloc _;have BZ:=Blk.new (W.alloc (.cells h.cl.toArray 33)) 33 dM.cl.toArray (W.heap.size+1) (by simp);have hb:=bAl (bAl (aj W) (.cells h.cl.toArray 33)) (.cells dM.cl.toArray 33);have hT0:0<h.text.length:=xh _;have hTo:okB h.text:=iI _;have hTl:=SC ho;have hsc:=aab (SH (s:=s) ho);have hhd:Hid (∀ w,Blk w W.heap.size 33 h.cl.toArray→w.cell? ⟨W.heap.size,40,none⟩=some (.int .i64 h.e)∧w.cell? ⟨W.heap.size,41,none⟩=some (.int .i64 h.s)):=aab (fun w B=>⟨(HdAt.of B rfl ho).c40,(HdAt.of B rfl ho).c41⟩);have qs:=fun A c w hA hw=>U4 s hs A c h.text w hA hTo hT0 hTl (hG.below (w':=w) hw);have hv1:Hid (h.formed=true→uF s h=mJ s h∧CE h=0):=aab (fun hf=>⟨if_pos hf,if_pos hf⟩);have hv2:Hid (h.formed=false→uF s h=dM∧CE h=480):=aab (fun hf=>⟨if_neg (by simp [hf]),if_neg (by simp [hf])⟩)
 replace q1:=aab q1;replace q2:=aab q2;replace qs:=aab qs;go_enter func26,ntmps26;go_upto_region 1 with fail;change Code.wp _ _ _ _ ((W.alloc (Obj.cells h.cl.toArray 33)).alloc (.cells dM.cl.toArray 33));generalize (W.alloc (Obj.cells h.cl.toArray 33)).alloc (.cells dM.cl.toArray 33)=w1 at *;generalize h.text=T at *;generalize h.e=e0 at *;generalize h.s=e1 at *;generalize qR s T=E at *;generalize sJ s T=S at *;obtain ⟨cs,hcs⟩:∃ cs,h.cl.toArray=cs:=⟨_,rfl⟩
 obtain ⟨zs,hzs⟩:∃ cs,dM.cl.toArray=cs:=⟨_,rfl⟩
 obtain ⟨ns,hns⟩:∃ cs,(mJ s h).cl.toArray=cs:=⟨_,rfl⟩
 rw [hcs] at BH q1 q2 hcl hsc hhd ⊢;rw [hzs] at BZ hz hzo;rw [hns] at hsl hs1 hsc;replace hzs:=aab hzs;replace hns:=aab hns;clear hcs hTo hT0 hTl hs s1 s2;go_wp2_with fail;refine (q0.out _).mono ?_;rintro e w' ⟨rfl,rfl⟩;clear q0;go_upto_region 3 with fail;apply wp_region_lit;refine aP (by rfl) (by rfl) (by rfl) (bg BH underlying33 rfl (by rw [hcl.out];exact cO)) ?_;simp only [Act.put,aaf,aai,aah];go_wp2_with fail;have q:=q1.out w1;clear q1;cases hf:h.formed with
 | false =>
  obtain ⟨hm,he⟩:=hv2.out hf;rw [hf] at q;have hm:=aab hm;have he:=aab he;clear hf hv1 hv2 hns hsl hs1 hsc q2 qs hhd;refine q.mono ?_;rintro e w2 ⟨rfl,b2⟩;clear q;replace BZ:=BZ.below b2 BZ.lt;replace hb:=ah hb b2;go_upto_region 4 with fail;apply wp_region_lit;refine aP (by rfl) (by rfl) (by rfl) (bg BZ underlying33 rfl (by rw [hz.out];exact cO)) ?_;simp only [Act.put,aaf,aai,aah];refine aG (by rfl) (by rfl) (by rfl) (by rfl) (aQ BZ (by rw [hz.out];exact cO) rfl hzo.out) ?_;simp only [Act.put];have BZ2:=BZ.row zs;have hb2:=below_setRow hb (show W.heap.size≤W.heap.size+1 by omega) zs;generalize w2.setRow (W.heap.size+1) zs=w3 at *;go_wp2_with fail;exact bodyPost_ret (v := .tuple #[.agg zs,.int .i64 480]) (xk rfl _ _ (W.heap.size+1) 33 _ (0,0) _ rfl BZ2 underlying33 rfl (by rw [hz.out];exact cO) rfl) rfl ⟨by rw [hm.out,he.out,hzs.out],hb2⟩
 | true =>
  obtain ⟨hm,he⟩:=hv1.out hf;rw [hf] at q;have hm:=aab hm;have he:=aab he;clear hf hv1 hv2;refine q.mono ?_;rintro e w2 ⟨rfl,b2⟩;clear q;replace BZ:=BZ.below b2 BZ.lt;replace BH:=BH.below b2 BH.lt;replace hb:=ah hb b2;go_upto_region 5 with fail;apply wp_region_lit
  iterate 3 go_step
  refine aP (by rfl) (by rfl) (by rfl) (bg BH underlying33 rfl (by rw [hcl.out];exact cO)) ?_;simp only [Act.put,aaf,aai,aah];go_wp2_with fail;refine (q2.out _).mono ?_;rintro e w3 ⟨v3,rfl,b3,A3,c3,rfl,hR3,_,_,_⟩;replace BZ:=BZ.below b3 BZ.lt;replace BH:=BH.below b3 BH.lt;replace hb:=ah hb b3;clear q2;go_wp2_with fail;refine (qs.out _ _ _ hR3 hb).mono ?_;rintro e w4 ⟨rfl,b4⟩;replace BZ:=BZ.below b4 BZ.lt;replace BH:=BH.below b4 BH.lt;replace hb:=ah hb b4;clear qs hR3 b2 b3 b4;obtain ⟨c0,c1⟩:=hhd.out w4 BH;have z0:=BH.frozen 40;have z1:=BH.frozen 41;have B2:=(BH.set_ 40 (.int .i64 E)).set_ 41 (.int .i64 S);rw [hsc.out] at B2;replace BZ:=(BZ.far (p:=⟨W.heap.size,40,none⟩) (by show W.heap.size+1≠W.heap.size;omega) (.int .i64 E)).far (p:=⟨W.heap.size,41,none⟩) (by show W.heap.size+1≠W.heap.size;omega) (.int .i64 S);have hb2:=zQ7 (zQ7 hb (p:=⟨W.heap.size,40,none⟩) (aad _) (.int .i64 E)) (p:=⟨W.heap.size,41,none⟩) (aad _) (.int .i64 S);go_upto_region 8 with fail;clear c0 c1 z0 z1 BH hb;generalize (w4.setCell ⟨W.heap.size,40,none⟩ (.int .i64 E)).setCell ⟨W.heap.size,41,none⟩ (.int .i64 S)=w5 at *;apply wp_region_lit;refine aP (by rfl) (by rfl) (by rfl) (bg B2 underlying33 rfl (by rw [hsl.out];exact cO)) ?_;simp only [Act.put,aaf,aai,aah];refine aG (by rfl) (by rfl) (by rfl) (by rfl) (aQ BZ (by rw [hsl.out];exact cO) (by rw [hz.out,hsl.out]) hs1.out) ?_;simp only [Act.put];have BZ2:=BZ.row ns;have hb3:=below_setRow hb2 (show W.heap.size≤W.heap.size+1 by omega) ns;generalize w5.setRow (W.heap.size+1) ns=w6 at *
  go_wp2_with fail;exact bodyPost_ret (v := .tuple #[.agg ns,.int .i64 0]) (xk rfl _ _ (W.heap.size+1) 33 _ (0,0) _ rfl BZ2 underlying33 rfl (by rw [hsl.out];exact cO) rfl) rfl ⟨by rw [hm.out,he.out,hns.out],hb3⟩
theorem PM {s:Int} {h:Hd} (hs:iO s=true) (hf:h.formed=true):(mJ s h).signed (pK s)=true:=by
 have e:(mJ s h).signed (pK s)=(h.formed&&sgB (pK s) h.text (qR s h.text) (sJ s h.text)):=rfl;rw [e,hf,U1 hs];rfl
def Xl:ByteArray:=⟨#[115,101,101,110]⟩
def kD (x:Ltr):List Nat:=dP (sb Xl) x.txt
theorem NH (x:Ltr):dL (kD x):=⟨dZ _ _,kE _⟩
def CJ:Lnk:=⟨0,0,[],[]⟩
def chainB (l:List Lnk):Bool:=(List.range l.length).all (fun i=>Hl l i (l.getD i CJ))
def chainE (l:List Lnk):Int:=if 1024<l.length then 2 else if chainB l=true then 0 else 80
def Dw (l:List (List Nat)):Bool:=(List.range l.length).all (fun i=>decide (i=0)||bef (l.getD (i - 1) []) (l.getD i []))
def Ofc.good (o:Ofc):Bool:=(decide (0≤o.no∧o.no<24)&&iO o.secret)&&((decide (chainE o.chain=0)&&o.chain.all (fun x=>decide (x.node=o.no)))&&(Dw o.used&&decide (o.used.length≤4096)))
def Ofc.err (o:Ofc):Int:=if o.good=true then 0 else 490
def iL:List (List Nat)→List (List Nat)→Option (List (List Nat))
 | u,[]=>some u
 | u,d::l=>if d∈u then none else iL (vH d u) l
def fB:List Nat:=List.replicate 32 0
def Hd.open_ (h:Hd):Hd:={ h with many:=0,root:=fB }
def Hd.for_ (h:Hd) (out:List Ltr):Hd:={ h with many:=(out.length:Int),root:=kN out }
noncomputable instance:DecidableEq Ltr:=fun a b=>Classical.propDecidable (a=b)
structure Jw where
 bare:List Ltr
 proofs:List Ltr
 mix:Mx
 hand:Hd
def SI:Mx:=⟨[],[],[],[],[]⟩
def vw:Jw:=⟨[],[],SI,dM⟩
def zeroOf:Ofc:=⟨0,0,[],[]⟩
section
variable (o:Ofc) (rest:Int) (h:Hd) (inn:List Ltr) (t:Trn)
def mM:Option (List (List Nat)):=iL o.used (inn.map kD)
def dh:Int :=
 if o.good=true∧(h.from_=o.no∧h.open_.formed=true) then
  if jv inn=0 then
   if kw rest (bu o.secret inn) t=0 then
    match mM o inn with
    | none=>491
    | some u=>if u.length≤4096 then (if o.chain.length<1024 then 0 else 2) else 2
   else kw rest (bu o.secret inn) t
  else jv inn
 else 490
def IE:Hd:=mJ o.secret (h.for_ (t.out rest (bu o.secret inn) (bu o.secret inn).length))
def zh:Lnk:=⟨o.no,(o.chain.length:Int),fV o.chain,(IE o rest h inn t).text⟩
def oK:Ofc:=⟨o.no,o.secret,o.chain++[zh o rest h inn t],(mM o inn).getD []⟩
def lh:Jw:=⟨bu o.secret inn,nV o.secret inn,jT rest (bu o.secret inn) t,IE o rest h inn t⟩
end
noncomputable def jc (key rest:Int) (inn:List Ltr) (j:Jw) (bits:List Int) (l:List Opn):Int :=
 if df key inn j.bare j.proofs=true then
  if (decide (j.mix.inn=j.bare)&&kz rest j.mix bits l)=true then
   if (j.hand.signed key&&(decide (j.hand.many=(j.mix.out.length:Int))&&decide (j.hand.root=kN j.mix.out)))=true then 0 else 2
  else 4
 else 3
theorem XN:∀ {l u v:List (List Nat)},iL u l=some v→v.length=u.length+l.length
 | [],u,v,h=>by injection h with h;subst h;rfl
 | d::l,u,v,h=>by
  unfold iL at h
  split at h
  ·cases h
  ·have:=XN h
   rw [yJ] at this;rw [this,aas];omega
theorem dJ (s:Int) (l:List Ltr):(bu s l).length=l.length:=by simp [bu]
section
variable {o:Ofc} {rest:Int} {h:Hd} {inn:List Ltr} {t:Trn} (hw:dh o rest h inn t=0)
include hw
theorem iD:o.good=true∧h.from_=o.no∧h.open_.formed=true∧jv inn=0∧kw rest (bu o.secret inn) t=0∧∃ u,mM o inn=some u∧u.length≤4096∧o.chain.length<1024:=by
 unfold dh at hw
 split at hw
 ·rename_i h1
  split at hw
  ·rename_i h2
   split at hw
   ·rename_i h3
    split at hw
    ·cases hw
    ·rename_i u hu
     split at hw
     ·rename_i h4
      split at hw
      ·rename_i h5
       exact ⟨h1.1,h1.2.1,h1.2.2,h2,h3,u,hu,h4,h5⟩
      ·cases hw
     ·cases hw
   ·rename_i h3;exact absurd hw h3
  ·rename_i h2;exact absurd hw h2
 ·cases hw
theorem xm:aA rest=true∧(bu o.secret inn).length≤64∧(bu o.secret inn).all Ltr.good=true∧t.fit ((bu o.secret inn).length:Int)=true:=by
 obtain ⟨_,_,_,_,h,_⟩:=iD hw;unfold kw at h
 split at h
 ·rename_i h1
  split at h
  ·cases h
  ·rename_i h2
   split at h
   ·rename_i h3
    split at h
    ·rename_i h4;exact ⟨h1,by omega,h3,h4⟩
    ·cases h
   ·cases h
 ·cases h
theorem zo:iO o.secret=true:=by
 have:=(iD hw).1
 unfold Ofc.good at this;simp only [aal] at this;exact this.1.2
theorem IG (out:List Ltr) (hl:out.length≤64):(h.for_ out).formed=true:=by
 have:=(iD hw).2.2.1
 unfold Hd.formed at this ⊢;simp only [aal,decide_eq_true_eq] at this ⊢;obtain ⟨⟨h1,h2,h3⟩,⟨h4,h5,h6⟩,h7,h8,h9⟩:=this;refine ⟨⟨h1,h2,h3⟩,⟨h4,h5,h6⟩,h7,h8,?_⟩;show 0≤(out.length:Int)∧(out.length:Int)≤64;omega
theorem II {out:List Ltr} (hl:out.length=inn.length) (bits:List Int) (l:List Opn) :
  jc (pK o.secret) rest inn ⟨bu o.secret inn,nV o.secret inn,(jT rest (bu o.secret inn) t).withOut out,mJ o.secret (h.for_ out)⟩ bits l=if kz rest ((jT rest (bu o.secret inn) t).withOut out) bits l=true then 0 else 4:=by
 have hs:=zo hw;obtain ⟨_,_,_,hc,_,_⟩:=iD hw;obtain ⟨_,h64,_,_⟩:=xm hw;rw [dJ] at h64;have hsg:=PM hs (IG hw out (by omega));unfold jc;have e1:((jT rest (bu o.secret inn) t).withOut out).inn=bu o.secret inn:=rfl;have e2:((jT rest (bu o.secret inn) t).withOut out).out=out:=rfl;simp only [e1,e2];rw [if_pos (UK hs hc)];simp only [decide_true,aaM]
 split
 ·rw [hsg,if_pos]
  show (true&&(decide ((out.length:Int)=(out.length:Int))&&decide (kN out=kN out)))=true;rw [decide_eq_true rfl,decide_eq_true rfl];rfl
 ·rfl
theorem xn (bits:List Int) (hbl:bits.length=inn.length) (hb:bits.all eU=true):jc (pK o.secret) rest inn (lh o rest h inn t) bits (t.opens bits)=0:=by
 obtain ⟨hk,_,hg,hf⟩:=xm hw;have hb2:bits.length=(bu o.secret inn).length:=by rw [dJ];exact hbl
 have h1:=Trn.shuf_ok hf hk hg hb2 hb;have hol:(t.out rest (bu o.secret inn) (bu o.secret inn).length).length=inn.length:=by rw [Trn.out_length,dJ]
 have h2:=II hw hol bits (t.opens bits);rw [show (jT rest (bu o.secret inn) t).withOut (t.out rest (bu o.secret inn) (bu o.secret inn).length)=jT rest (bu o.secret inn) t from rfl,if_pos h1] at h2;exact h2
theorem Et {s:Int} (hrest:rest=aJ 4 s) {k:Nat} {x:Ltr} (hx:inn[k]?=some x):∃ (p:Nat) (y:Ltr),t.way[k]?=some (p:Int)∧p<inn.length∧(t.out rest (bu o.secret inn) (bu o.secret inn).length)[p]?=some y∧y.good=true ∧
  x.good=true∧(x.by (iE o.secret)).good=true∧kY (stripL s y)=kY (stripL s (x.by (iE o.secret))):=by
 obtain ⟨hk,_,hg,hf⟩:=xm hw;obtain ⟨_,_,_,hc,_⟩:=iD hw;have hxg:x.good=true:=aau.1 (wJ.1 hc).2 x (aam hx);have hx2:(bu o.secret inn)[k]?=some (x.by (iE o.secret)):=by unfold bu;rw [aaD,hx];rfl
 have hg2:=Bh (s:=o.secret) hxg;obtain ⟨p,y,h1,h2,h3,h4,h5⟩:=Trn.reads (s:=s) hf hx2 hg2;refine ⟨p,y,h1,by rw [dJ] at h2;exact h2,by rw [hrest];exact h3,h4,hxg,hg2,h5⟩
end
end
section
open Go Go.RowKit
attribute [local go_sem] Oper.semAt_some
def vz (l:List Lnk) (j v:Nat):Bool :=
 decide ((l.getD v uZ).node=(l.getD 0 uZ).node)&&(decide (0≤(l.getD v uZ).node)&&(decide ((l.getD v uZ).node<24)&&(decide ((l.getD v uZ).no=(j:Int))&&(decide ((l.getD v uZ).data.length≤65536)&&decide ((l.getD v uZ).prev=fV (l.take v))))))
theorem IJ {l:List Lnk} {k:Nat} (h:k<l.length):Hl l k (l.getD k CJ)=vz l k k:=by
 unfold Hl vz;have e1:l.getD k CJ=l.getD k uZ:=rfl
 have e2:l.headD (l.getD k uZ)=l.getD 0 uZ:=by
  cases l with
  | nil=>simp at h
  | cons x l=>rfl
 rw [e1,e2];simp only [Bool.and_assoc]
theorem upto_at {n j:Nat} (h:j<n):(upto n n)[j]?=some ⟨j,h⟩:=by
 unfold upto;rw [aa6,if_pos h];simp [h]
theorem KN {l:List Lnk} (h:∀ (j:Nat) (x:Fin l.length),(upto l.length l.length)[j]?=some x→vz l j x.val=true) (hl:l.length≤1024):chainE l=0:=by
 unfold chainE;rw [if_neg (by omega),if_pos];unfold chainB;rw [aau];intro j hj;have hj:=aaE.1 hj;rw [IJ hj];exact h j ⟨j,hj⟩ (upto_at hj)
theorem KO {l:List Lnk} {p:List (Fin l.length)} {x:Fin l.length} {k:Nat} (hk:k<l.length) (e:p++[x]=upto l.length (k+1)) (h:vz l p.length x.val=false) (hl:l.length≤1024):chainE l=80:=by
 have e2:=upto_succ hk;rw [←e2] at e;obtain ⟨e3,e4⟩:=List.append_inj' e rfl;injection e4 with e4
 subst e4;rw [e3,upto_length (by omega)] at h;unfold chainE;rw [if_neg (by omega),if_neg];unfold chainB;intro hc;rw [aau] at hc
 have:=hc k (aaE.2 hk)
 rw [IJ hk,h] at this;cases this
theorem Eu (l:List Lnk):(fV l).length=32:=by
 unfold fV
 split <;> exact dZ _ _
theorem IK (A:Option Addr) (c:Nat) (l:List Lnk) (vs:List Value) (W:World) (hA:LksAt W W.heap.size A l vs) (hn:l.length≤1000000) (hcap:l.length≤c) (hG:ShaG W) :
  Calls prog 33 #[.slice A l.length c] W (Ret (.int .i64 (chainE l)) W):=by
 refine dQ func33 rfl ?_;simp only [ntmps33,aae,aas,List.length_nil,Nat.reduceAdd,Nat.reduceSub,aaV,aaW,aaX,aaY,aaJ,aaN];have B0:=(Blk.new W 22 #[.slice A l.length c] _ rfl).alloc (.cells #[.int .i64 0] 42);have B1:=Blk.new (W.alloc (.cells #[.slice A l.length c] 22)) 42 #[.int .i64 0] (W.heap.size+1) (by simp);have hb:=bAl (bAl (aj W) (.cells #[.slice A l.length c] 22)) (.cells #[.int .i64 0] 42);go_upto_region 1 with fail;change Code.wp _ _ _ _ ((W.alloc (.cells #[.slice A l.length c] 22)).alloc (.cells #[.int .i64 0] 42));generalize (W.alloc (.cells #[.slice A l.length c] 22)).alloc (.cells #[.int .i64 0] 42)=w1 at *;have d0:=B0.cell 0;have x1:=B1.cell 0;have z1:=B1.frozen 0;obtain ⟨v,hv⟩:∃ v,chainE l=v:=⟨_,rfl⟩
 rw [hv];replace hv:=aab hv;by_cases h1024:(1024:Int)<(l.length:Int)
 ·have hv2:Hid (v=2):=by
   show _=_;rw [←hv.out];unfold chainE;rw [if_pos (by omega)]
  have f1:=(B1.set_ 0 (.int .i64 2)).cell 0;go_wp2_with fail;exact ⟨.int .i64 2,by simp [results,results33,go_sem,f1],by rw [←hv2.out,←hv.out],zQ7 hb (p:=⟨W.heap.size+1,0,none⟩) (by show W.heap.size≤W.heap.size+1;omega) _⟩
 ·go_upto_region 4 with fail
  obtain ⟨c3,hc3⟩:∃ c3,c3=w1.heap.size:=⟨_,rfl⟩
  have B2:=Blk.new w1 3 #[.int .i64 0] c3 hc3;have hc31:W.heap.size+1<c3:=by rw [hc3];exact B1.lt
  replace B0:=B0.alloc (.cells #[.int .i64 0] 3);replace B1:=B1.alloc (.cells #[.int .i64 0] 3);replace hb:=bAl hb (.cells #[.int .i64 0] 3);rw [←hc3];clear hc3 d0 x1 z1;generalize w1.alloc (.cells #[.int .i64 0] 3)=w2 at *;have d0:=B0.cell 0;go_wp2_with fail;refine (UZ _ _ _ _).mono ?_;rintro e w3 ⟨rfl,rfl⟩;clear d0;obtain ⟨bp,hbp⟩:∃ bp,bp=w2.heap.size:=⟨_,rfl⟩
  have BP:=Blk.new w2 22 #[.slice A l.length c] bp hbp;have hbpc:c3<bp:=by rw [hbp];exact B2.lt
  replace B0:=B0.alloc (.cells #[.slice A l.length c] 22);replace B1:=B1.alloc (.cells #[.slice A l.length c] 22);replace B2:=B2.alloc (.cells #[.slice A l.length c] 22);replace hb:=bAl hb (.cells #[.slice A l.length c] 22);rw [←hbp];clear hbp;generalize w2.alloc (.cells #[.slice A l.length c] 22)=w4 at *;have hbz:=hb.size;have g1:=hG.2.2.1;have g2:=hG.2.2.2;go_wp2_with fail
  refine Pg 2 (gf:=190) (lb:=#[.pointer (some ⟨bp,0,none⟩)]) rfl (enters_of func190 (by kernel_rfl) rfl)
   (fun k=>k≠W.heap.size+1∧k≠c3) (Pz bp W.heap.size c A l vs (fun k=>k≠W.heap.size+1∧k≠c3) w4 ⟨by omega,by omega⟩ (fun k hk=>⟨by omega,by omega⟩) ⟨by omega,by omega⟩ ⟨by omega,by omega⟩ hbz BP (hA.below hb) (hG.below hb) hn hcap) (fun _=>rfl) W hb
   (fun pre=>[(W.heap.size,22,#[.slice A l.length c]),(W.heap.size+1,42,#[.int .i64 0]),(c3,3,#[.int .i64 (pre.length:Nat)])])
   (fun pre=>∀ (j:Nat) (x:Fin l.length),pre[j]?=some x→vz l j x.val=true)
   (fun _ _=>[(W.heap.size+1,42,#[.int .i64 80])])
   (fun co pre=>co = .ret∧∃ p x,pre=p++[x]∧vz l p.length x.val=false) ⟨B0,B1,B2,trivial⟩ (fun j x h=>by cases h) ?round ?done ?stop
  case round =>
   clear B0 B1 B2 BP;rintro L0 pre x Wc hlen hbc ⟨B0,B1,B2,_⟩ hRp;dsimp only at B0 B1 B2;have hxv:=x.isLt;obtain ⟨y,hy⟩:∃ y,l[x.val]?=some y:=⟨_,aac hxv⟩
   obtain ⟨y0,hy0⟩:∃ y,l[0]?=some y:=⟨_,aac (by omega)⟩
   obtain ⟨b,off,Ad,cd,hAe,hbb,hyo,hRd,hrg,hlk⟩:=hA.at2 hy;obtain ⟨b',off',Ad',cd',hAe',hbb',hyo',hRd',hrg',hlk'⟩:=hA.at2 hy0;have c0:W.cell? ⟨b',off',none⟩=some (.int .i64 y0.node):=by simpa using hrg' 0 _ rfl
   have hok:Hid (vz l pre.length x.val=(decide (y.node=y0.node)&&(decide (0≤y.node)&&(decide (y.node<24)&&(decide (y.no=(pre.length:Int))&&(decide (y.data.length≤65536)&&decide (y.prev=fV (l.take x.val)))))))):=by
    show _=_;unfold vz;rw [aS hy,aS hy0]
   have hy1:(y.cl (.slice Ad y.data.length cd)).length=35:=Lnk.cl_length hyo;have hone:∀ v∈(y.cl (.slice Ad y.data.length cd)).toArray.toList,v.oneCell'=true:=(by simpa using Lnk.one y _ rfl);have hszY:(y.cl (.slice Ad y.data.length cd)).toArray.size=35:=(by simpa using hy1);have hH32:(fV (l.take x.val)).length=32:=Eu _;obtain ⟨Z,hZ⟩:∃ Z,fV (l.take x.val)=Z:=⟨_,rfl⟩
   dsimp only [RS];rw [hlk,hZ];rw [hZ] at hok hH32;unfold dig;have hp32:=hyo.2.2.1.1
   have hprev:∀ j u,(ag y.prev)[j]?=some u→(y.cl (.slice Ad y.data.length cd)).toArray[2+j]?=some u:=fun j u hu=>by
    rw [aaG];unfold Lnk.cl
    rw [aaz (by simp),aaO (by
     have:=(aag.1 hu).1
     simp at this ⊢;omega)]
    simpa using hu
   have hdat:(y.cl (.slice Ad y.data.length cd)).toArray[34]?=some (.slice Ad y.data.length cd):=by
    rw [aaG];unfold Lnk.cl;rw [aaz (by simp),aaz (by simp [ai,hp32])];simp [ai,hp32]
   have hnod:(y.cl (.slice Ad y.data.length cd)).toArray[0]?=some (.int .i64 y.node):=rfl;have hnno:(y.cl (.slice Ad y.data.length cd)).toArray[1]?=some (.int .i64 y.no):=rfl;obtain ⟨Y,hYd⟩:∃ Y,(y.cl (.slice Ad y.data.length cd)).toArray=Y:=⟨_,rfl⟩
   rw [hYd] at hone hszY hprev hdat hnod hnno ⊢;have hZs:(ag Z).toArray.size=32:=(by rw [aae,ai,hH32]);clear hlk hlk' hrg hrg' hRd hRd' hYd hy1 hy hy0 hyo' hZ
   gi_upto_region 5 with fail
   apply wpIn_region_lit
   iterate 3 gi_step
   refine kZ rfl rfl rfl rfl (su (by rw [hszY];exact gu) (by rw [hszY];rfl) (by have:=all_oneCell_toArray hone;simpa using this)) ?_;refine wpListIn_nil ?_;obtain ⟨g4,hg4⟩:∃ g,g=Wc.heap.size:=⟨_,rfl⟩
   have BY:=Blk.new Wc 85 Y g4 hg4;have hbx:=bAl (aj Wc) (.cells Y 85);rw [←hg4];clear hg4;generalize Wc.alloc (.cells Y 85)=w6 at *
   gi_upto_region 6 with fail
   apply wpIn_region_lit
   iterate 3 gi_step
   refine kZ rfl rfl rfl rfl (su (by rw [hZs];exact aW) (by rw [hZs];rfl) (fK _)) ?_;refine wpListIn_nil ?_;have BZ:=Blk.new w6 29 (ag Z).toArray w6.heap.size rfl;replace BY:=BY.alloc (.cells (ag Z).toArray 29);replace hbx:=bAl hbx (.cells (ag Z).toArray 29);refine ⟨[(g4,85,Y),(w6.heap.size,29,(ag Z).toArray)],KeepsOthers.below hbx,KeepsC.below hbx,ah hbc hbx,⟨BY,BZ,B0.below hbx B0.lt,B1.below hbx B1.lt,B2.below hbx B2.lt,trivial⟩,?_⟩;clear B0 B1 B2 BY BZ hbx;rintro L W2 hb2 ⟨BY,BZ,B0,B1,B2,_⟩;dsimp only at BY BZ B0 B1 B2;generalize w6.heap.size=g5 at *;have hb2z:=hb2.size;subst hAe;injection hAe' with hAe'
   injection hAe' with e1 e2
   subst e1;subst e2
   have KS:Hid (∀ w',Below W2.heap.size W2 w'→((Instr.loadAt 29 (.pointer (some ⟨g4,2,none⟩))).run prog w' = .ok (.agg (ag y.prev).toArray) w'∧(Instr.loadAt 29 (.pointer (some ⟨g5,0,none⟩))).run prog w' = .ok (.agg (ag Z).toArray) w' ∧
     w'.cell? ⟨g4,0,none⟩=some (.int .i64 y.node)∧w'.cell? ⟨g4,1,none⟩=some (.int .i64 y.no)∧w'.cell? ⟨g4,34,none⟩=some (.slice Ad y.data.length cd)∧w'.cell? ⟨W.heap.size,0,none⟩=some (.slice (some ⟨b,off,none⟩) l.length c)∧w'.cell? ⟨b,off,none⟩=some (.int .i64 y0.node)∧w'.cell? ⟨c3,0,none⟩=some (.int .i64 (pre.length:Nat)))) :=
    aab (fun w' h=>⟨fF (g:=g4) (o:=2) (fun j u hu=>((BY.below h BY.lt).cell (2+j)).trans (hprev j u hu)) hp32,bg (BZ.below h BZ.lt) bQ rfl (by rw [hZs];exact aW),((BY.below h BY.lt).cell 0).trans hnod,((BY.below h BY.lt).cell 1).trans hnno,((BY.below h BY.lt).cell 34).trans hdat,(B0.below h B0.lt).cell 0,(h.cell (p:=⟨b,off,none⟩) (by show b<_;omega)).trans ((hb2.cell (p:=⟨b,off,none⟩) hbb).trans c0),(B2.below h B2.lt).cell 0⟩)
   have z1:=B1.frozen 0;have x1:W2.cell? ⟨W.heap.size+1,0,none⟩=some (.int .i64 0):=B1.cell 0;have hne:=zY y.prev Z hp32 hH32;have l0:0<l.length:=(by omega);have hpl:pre.length<l.length:=hlen
   gi_upto_region 7 with fail
   clear hone hszY hprev hdat hnod hnno hp32 hH32 c0 hZs;generalize y.node=yn at *;generalize y0.node=yn0 at *;generalize y.no=yo at *;obtain ⟨dl,hdl⟩:∃ d,y.data.length=d:=⟨_,rfl⟩
   rw [hdl] at KS hok;generalize y.prev=yp at *;have s0:(decide (yn=yn0))=!(yn != yn0):=(by rw [abb];simp [bne]);have s3:(decide (yo=(pre.length:Int)))=!(yo != (pre.length:Int)):=(by rw [abb];simp [bne]);rw [s0,s3] at hok;cases e0:(yn != yn0)
   rotate_left 1
   ·
    have hbad:vz l pre.length x.val=false:=(by rw [hok.out,e0];rfl);refine dU (g:=0) KS [(0,1),(1,2),(2,2),(3,1),(4,1),(5,2),(6,1),(7,1),(8,1),(9,1),(10,1),(11,1),(12,1),(13,1),(14,1),(15,1),(16,1),(17,1),(18,1),(19,1),(20,1),(21,1),(22,1),(23,1),(24,1),(25,1),(26,1),(27,1),(28,1),(29,1),(30,1),(31,1),(32,1),(33,1),(34,1)] ?_;simp only [bf,aap,aar];refine ae ?_;refine az ?_;refine az ?_;refine ae ?_;refine ae ?_;refine az ?_;refine ae ?_;refine ae ?_;refine ay ?_;refine ay ?_;refine ay ?_;refine ae ?_;refine ae ?_;refine ay ?_;refine ay ?_;refine ay ?_;refine ae ?_;refine ae ?_;refine ay ?_;refine ay ?_;refine ay ?_;refine ay ?_;refine ae ?_;refine ae ?_;refine ay ?_;refine ay ?_;refine ay ?_;refine ay ?_;refine ae ?_;refine ae ?_;refine ay ?_;refine ay ?_;refine ay ?_;refine ay ?_;refine ae ?_;refine lQ ?_;refine NoOut.normal ?_
    gi_wp2_with fail
    exact ⟨(KeepsOthers.below (bDr (aj W2))).trans (KeepsOthers.setCell _ _ _),zQ7 (bDr hb2) (p:=⟨W.heap.size+1,0,none⟩) (by show W.heap.size≤W.heap.size+1;omega) _,⟨(Blk.dr B1).set_ 0 (.int .i64 80),trivial⟩,rfl,pre,x,rfl,hbad⟩
   rw [e0] at hok;by_cases a1:yn<0
   ·
    have hbad:vz l pre.length x.val=false:=(by rw [hok.out,decide_eq_false (show ¬0≤yn by omega)];rfl);refine dU (g:=0) KS [(0,1),(1,2),(2,2),(3,1),(4,1),(5,2),(6,1),(7,1),(8,1),(9,2),(10,1),(11,1),(12,1),(13,1),(14,1),(15,1),(16,1),(17,1),(18,1),(19,1),(20,1),(21,1),(22,1),(23,1),(24,1),(25,1),(26,1),(27,1),(28,1),(29,1),(30,1),(31,1),(32,1),(33,1),(34,1)] ?_;simp only [bf,aap,aar];refine ae ?_;refine az ?_;refine az ?_;refine ae ?_;refine ae ?_;refine az ?_;refine ae ?_;refine ae ?_;refine ae ?_;refine az ?_;refine ae ?_;refine ae ?_;refine ae ?_;refine ay ?_;refine ay ?_;refine ay ?_;refine ae ?_;refine ae ?_;refine ay ?_;refine ay ?_;refine ay ?_;refine ay ?_;refine ae ?_;refine ae ?_;refine ay ?_;refine ay ?_;refine ay ?_;refine ay ?_;refine ae ?_;refine ae ?_;refine ay ?_;refine ay ?_;refine ay ?_;refine ay ?_;refine ae ?_;refine lQ ?_;refine NoOut.normal ?_
    gi_wp2_with fail
    exact ⟨(KeepsOthers.below (bDr (aj W2))).trans (KeepsOthers.setCell _ _ _),zQ7 (bDr hb2) (p:=⟨W.heap.size+1,0,none⟩) (by show W.heap.size≤W.heap.size+1;omega) _,⟨(Blk.dr B1).set_ 0 (.int .i64 80),trivial⟩,rfl,pre,x,rfl,hbad⟩
   by_cases a2:24≤yn
   ·
    have hbad:vz l pre.length x.val=false:=(by rw [hok.out,decide_eq_false (show ¬yn<24 by omega)];simp);refine dU (g:=0) KS [(0,1),(1,2),(2,2),(3,1),(4,1),(5,2),(6,1),(7,1),(8,1),(9,2),(10,1),(11,1),(12,1),(13,1),(14,2),(15,1),(16,1),(17,1),(18,1),(19,1),(20,1),(21,1),(22,1),(23,1),(24,1),(25,1),(26,1),(27,1),(28,1),(29,1),(30,1),(31,1),(32,1),(33,1),(34,1)] ?_;simp only [bf,aap,aar];refine ae ?_;refine az ?_;refine az ?_;refine ae ?_;refine ae ?_;refine az ?_;refine ae ?_;refine ae ?_;refine ae ?_;refine az ?_;refine ae ?_;refine ae ?_;refine ae ?_;refine ae ?_;refine az ?_;refine ae ?_;refine ae ?_;refine ae ?_;refine ay ?_;refine ay ?_;refine ay ?_;refine ay ?_;refine ae ?_;refine ae ?_;refine ay ?_;refine ay ?_;refine ay ?_;refine ay ?_;refine ae ?_;refine ae ?_;refine ay ?_;refine ay ?_;refine ay ?_;refine ay ?_;refine ae ?_;refine lQ ?_;refine NoOut.normal ?_
    gi_wp2_with fail
    exact ⟨(KeepsOthers.below (bDr (aj W2))).trans (KeepsOthers.setCell _ _ _),zQ7 (bDr hb2) (p:=⟨W.heap.size+1,0,none⟩) (by show W.heap.size≤W.heap.size+1;omega) _,⟨(Blk.dr B1).set_ 0 (.int .i64 80),trivial⟩,rfl,pre,x,rfl,hbad⟩
   cases e3:(yo != (pre.length:Int))
   rotate_left 1
   ·
    have hbad:vz l pre.length x.val=false:=(by rw [hok.out,e3];simp);refine dU (g:=0) KS [(0,1),(1,2),(2,2),(3,1),(4,1),(5,2),(6,1),(7,1),(8,1),(9,2),(10,1),(11,1),(12,1),(13,1),(14,2),(15,1),(16,1),(17,1),(18,1),(19,2),(20,2),(21,1),(22,1),(23,1),(24,1),(25,1),(26,1),(27,1),(28,1),(29,1),(30,1),(31,1),(32,1),(33,1),(34,1)] ?_;simp only [bf,aap,aar];refine ae ?_;refine az ?_;refine az ?_;refine ae ?_;refine ae ?_;refine az ?_;refine ae ?_;refine ae ?_;refine ae ?_;refine az ?_;refine ae ?_;refine ae ?_;refine ae ?_;refine ae ?_;refine az ?_;refine ae ?_;refine ae ?_;refine ae ?_;refine ae ?_;refine az ?_;refine az ?_;refine ae ?_;refine ae ?_;refine ae ?_;refine ay ?_;refine ay ?_;refine ay ?_;refine ay ?_;refine ae ?_;refine ae ?_;refine ay ?_;refine ay ?_;refine ay ?_;refine ay ?_;refine ae ?_;refine lQ ?_;refine NoOut.normal ?_
    gi_wp2_with fail
    exact ⟨(KeepsOthers.below (bDr (aj W2))).trans (KeepsOthers.setCell _ _ _),zQ7 (bDr hb2) (p:=⟨W.heap.size+1,0,none⟩) (by show W.heap.size≤W.heap.size+1;omega) _,⟨(Blk.dr B1).set_ 0 (.int .i64 80),trivial⟩,rfl,pre,x,rfl,hbad⟩
   rw [e3] at hok;by_cases a4:(65536:Int)<(dl:Int)
   ·
    have hbad:vz l pre.length x.val=false:=(by rw [hok.out,decide_eq_false (show ¬dl≤65536 by omega)];simp);refine dU (g:=0) KS [(0,1),(1,2),(2,2),(3,1),(4,1),(5,2),(6,1),(7,1),(8,1),(9,2),(10,1),(11,1),(12,1),(13,1),(14,2),(15,1),(16,1),(17,1),(18,1),(19,2),(20,2),(21,1),(22,1),(23,1),(24,1),(25,2),(26,1),(27,1),(28,1),(29,1),(30,1),(31,1),(32,1),(33,1),(34,1)] ?_;simp only [bf,aap,aar];refine ae ?_;refine az ?_;refine az ?_;refine ae ?_;refine ae ?_;refine az ?_;refine ae ?_;refine ae ?_;refine ae ?_;refine az ?_;refine ae ?_;refine ae ?_;refine ae ?_;refine ae ?_;refine az ?_;refine ae ?_;refine ae ?_;refine ae ?_;refine ae ?_;refine az ?_;refine az ?_;refine ae ?_;refine ae ?_;refine ae ?_;refine ae ?_;refine az ?_;refine ae ?_;refine ae ?_;refine ae ?_;refine ae ?_;refine ay ?_;refine ay ?_;refine ay ?_;refine ay ?_;refine ae ?_;refine lQ ?_;refine NoOut.normal ?_
    gi_wp2_with fail
    exact ⟨(KeepsOthers.below (bDr (aj W2))).trans (KeepsOthers.setCell _ _ _),zQ7 (bDr hb2) (p:=⟨W.heap.size+1,0,none⟩) (by show W.heap.size≤W.heap.size+1;omega) _,⟨(Blk.dr B1).set_ 0 (.int .i64 80),trivial⟩,rfl,pre,x,rfl,hbad⟩
   generalize decide (yp=Z)=bE at *;cases bE
   ·
    have hbad:vz l pre.length x.val=false:=(by rw [hok.out];simp);refine dU (g:=0) KS [(0,1),(1,2),(2,2),(3,1),(4,1),(5,2),(6,1),(7,1),(8,1),(9,2),(10,1),(11,1),(12,1),(13,1),(14,2),(15,1),(16,1),(17,1),(18,1),(19,2),(20,2),(21,1),(22,1),(23,1),(24,1),(25,2),(26,1),(27,1),(28,1),(29,1),(30,1),(31,2),(32,2),(33,1),(34,1)] ?_;simp only [bf,aap,aar];refine ae ?_;refine az ?_;refine az ?_;refine ae ?_;refine ae ?_;refine az ?_;refine ae ?_;refine ae ?_;refine ae ?_;refine az ?_;refine ae ?_;refine ae ?_;refine ae ?_;refine ae ?_;refine az ?_;refine ae ?_;refine ae ?_;refine ae ?_;refine ae ?_;refine az ?_;refine az ?_;refine ae ?_;refine ae ?_;refine ae ?_;refine ae ?_;refine az ?_;refine ae ?_;refine ae ?_;refine ae ?_;refine ae ?_;refine ae ?_;refine az (v:=?vq1) (hv:=?hq1) ?_;case hq1=>(intro w hSw;(first | refine (af rfl rfl hSw).trans ?_ | refine (af rfl rfl hSw.1).trans ?_ | refine (af rfl rfl hSw.2.1).trans ?_ | refine (af rfl rfl hSw.2.2.1).trans ?_ | refine (af rfl rfl hSw.2).trans ?_ | refine (af rfl rfl hSw.2.2).trans ?_);with_reducible rfl)
    refine az (v:=?vq2) (hv:=?hq2) ?_;case hq2=>(intro w hSw;(first | refine (af rfl rfl hSw).trans ?_ | refine (af rfl rfl hSw.1).trans ?_ | refine (af rfl rfl hSw.2.1).trans ?_ | refine (af rfl rfl hSw.2.2.1).trans ?_ | refine (af rfl rfl hSw.2).trans ?_ | refine (af rfl rfl hSw.2.2).trans ?_);with_reducible rfl)
    refine ae ?_;refine ae ?_;refine lQ ?_;refine NoOut.normal ?_
    gi_wp2_with fail
    exact ⟨(KeepsOthers.below (bDr (aj W2))).trans (KeepsOthers.setCell _ _ _),zQ7 (bDr hb2) (p:=⟨W.heap.size+1,0,none⟩) (by show W.heap.size≤W.heap.size+1;omega) _,⟨(Blk.dr B1).set_ 0 (.int .i64 80),trivial⟩,rfl,pre,x,rfl,hbad⟩
   have hgood:vz l pre.length x.val=true:=by
    rw [hok.out,decide_eq_true (show 0≤yn by omega),decide_eq_true (show yn<24 by omega),decide_eq_true (show dl≤65536 by omega)];rfl
   refine dU (g:=0) KS [(0,1),(1,2),(2,2),(3,1),(4,1),(5,2),(6,1),(7,1),(8,1),(9,2),(10,1),(11,1),(12,1),(13,1),(14,2),(15,1),(16,1),(17,1),(18,1),(19,2),(20,2),(21,1),(22,1),(23,1),(24,1),(25,2),(26,1),(27,1),(28,1),(29,1),(30,1),(31,2),(32,2),(33,1),(34,1)] ?_;simp only [bf,aap,aar];refine ae ?_;refine az ?_;refine az ?_;refine ae ?_;refine ae ?_;refine az ?_;refine ae ?_;refine ae ?_;refine ae ?_;refine az ?_;refine ae ?_;refine ae ?_;refine ae ?_;refine ae ?_;refine az ?_;refine ae ?_;refine ae ?_;refine ae ?_;refine ae ?_;refine az ?_;refine az ?_;refine ae ?_;refine ae ?_;refine ae ?_;refine ae ?_;refine az ?_;refine ae ?_;refine ae ?_;refine ae ?_;refine ae ?_;refine ae ?_;refine az (v:=?vq3) (hv:=?hq3) ?_;case hq3=>(intro w hSw;(first | refine (af rfl rfl hSw).trans ?_ | refine (af rfl rfl hSw.1).trans ?_ | refine (af rfl rfl hSw.2.1).trans ?_ | refine (af rfl rfl hSw.2.2.1).trans ?_ | refine (af rfl rfl hSw.2).trans ?_ | refine (af rfl rfl hSw.2.2).trans ?_);with_reducible rfl)
   refine az (v:=?vq4) (hv:=?hq4) ?_;case hq4=>(intro w hSw;(first | refine (af rfl rfl hSw).trans ?_ | refine (af rfl rfl hSw.1).trans ?_ | refine (af rfl rfl hSw.2.1).trans ?_ | refine (af rfl rfl hSw.2.2.1).trans ?_ | refine (af rfl rfl hSw.2).trans ?_ | refine (af rfl rfl hSw.2.2).trans ?_);with_reducible rfl)
   refine ae ?_;refine ae ?_;refine lQ ?_;have x2:W2.drew.cell? ⟨c3,0,none⟩=some (.int .i64 (pre.length:Nat)):=(Blk.dr B2).cell 0;have z2:=(Blk.dr B2).frozen 0;have i2:IntKind.i64.wrap ((pre.length:Int)+1)=(pre.length:Int)+1:=(by rw [IntKind.wrap_i64];omega);refine NoOut.normal ?_
   gi_wp2_with fail
   have hlen2:((pre++[x]).length:Int)=(pre.length:Int)+1:=by simp
   refine ⟨(KeepsOthers.below (bDr (aj W2))).trans (KeepsOthers.setCell _ _ _),(KeepsC.below (bDr (aj W2))).set_ (p:=⟨c3,0,none⟩) (by show ¬(c3≠W.heap.size+1∧c3≠c3);omega) _,zQ7 (bDr hb2) (p:=⟨c3,0,none⟩) (by show W.heap.size≤c3;omega) _,
    ⟨(Blk.dr B0).far (p:=⟨c3,0,none⟩) (by show W.heap.size≠c3;omega) _,(Blk.dr B1).far (p:=⟨c3,0,none⟩) (by show W.heap.size+1≠c3;omega) _,by rw [hlen2];exact (Blk.dr B2).set_ 0 (.int .i64 ((pre.length:Int)+1)),trivial⟩,fun j x' hj=>?_⟩
   rcases aa0 j pre.length with hjl | hjl
   ·rw [aaO hjl] at hj
    exact hRp j x' hj
   ·have hj1:=(aag.1 hj).1
    rw [aan] at hj1;have hje:j=pre.length:=(by simp at hj1;omega);subst hje;rw [aaz (aad _),Nat.sub_self] at hj;injection hj with hj
    subst hj;exact hgood
  case done =>
   clear B0 B1 B2 BP;rintro D xs Wc hD rfl hbc ⟨B0,B1,B2,_⟩ hRp hd;dsimp only at B1
   have hv2:Hid (v=0):=by
    show _=_;rw [←hv.out];exact KN hRp (by omega)
   have x1:Wc.cell? ⟨W.heap.size+1,0,none⟩=some (.int .i64 0):=B1.cell 0;have z1:=B1.frozen 0;have C1:=B1.set_ 0 (.int .i64 0);have hm:=(Below.heap_setCell Wc ⟨W.heap.size+1,0,none⟩ (.int .i64 0) D (tN B1 hd rfl).symm).trans hd;have hb3:=zQ7 hbc (p:=⟨W.heap.size+1,0,none⟩) (by show W.heap.size≤W.heap.size+1;omega) (.int .i64 0);go_wp2_with fail;refine cZ (by simp) hm ?_;have C3:=C1.put (o' := .deferred none) hm rfl;have f3:=C3.cell 0;exact ⟨.int .i64 0,by simp [results,results33,go_sem,f3],by rw [hv.out,hv2.out],uQ hb3 hD _⟩
  case stop =>
   clear B0 B1 B2 BP;rintro D co pre Wc hD ⟨k,hk,hpre⟩ hbc ⟨B1,_⟩ ⟨rfl,p,x,rfl,hx⟩ hd;dsimp only at B1
   have hv2:Hid (v=80):=by
    show _=_;rw [←hv.out];exact KO hk hpre hx (by omega)
   go_wp2_with fail;refine cZ (by simp) hd ?_;have C3:=B1.put (o' := .deferred none) hd rfl;have f3:=C3.cell 0;exact ⟨.int .i64 80,by simp [results,results33,go_sem,f3],by rw [hv.out,hv2.out],uQ hbc hD _⟩
end
end Go.Proofs.YthbibbkbaphpkaaGreatDoor

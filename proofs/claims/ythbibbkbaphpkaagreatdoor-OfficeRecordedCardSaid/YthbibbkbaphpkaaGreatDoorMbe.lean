/- The reference's Same of links and of letters that are the same; walked. -/
import Derived.Test.YthbibbkbaphpkaaGreatDoorMaz
import Derived.Test.YthbibbkbaphpkaaGreatDoorMan
import Derived.Test.YthbibbkbaphpkaaGreatDoorMav
import Derived.Test.YthbibbkbaphpkaaGreatDoorMbb
import Derived.Test.YthbibbkbaphpkaaGreatDoorMbc
set_option maxHeartbeats 16000000
set_option maxRecDepth 1000000
namespace Go.Proofs.YthbibbkbaphpkaaGreatDoor
open _root_.Go.Proofs.Tryz
section
open Go Go.RowKit
theorem YK (a b:List Nat) (ha:a.length=32) (hb:b.length=32) (x y:Tmp) (w:World):(do eqGuard .eql 29 (.tmp x) (.tmp y) (.agg (ag a).toArray) (.agg (ag b).toArray);binOp .eql 29 (.agg (ag a).toArray) (.agg (ag b).toArray):Sem Value).run prog w = .ok (.bool (decide (a=b))) w:=by
 have h:(eqGuard .eql 29 (.tmp x) (.tmp y) (.agg (ag a).toArray) (.agg (ag b).toArray)).run prog w = .ok () w:=by kernel_rfl
 rw [Sem.run_bind,h];exact UH a b ha hb w
theorem Yf {x:Lnk} {v:Value} (h:x.ok):(x.cl v).toArray.size=35∧(x.cl v).toArray[0]?=some (.int .i64 x.node)∧(x.cl v).toArray[1]?=some (.int .i64 x.no)∧(x.cl v).toArray[34]?=some v∧∀ j u,(ag x.prev)[j]?=some u→(x.cl v).toArray[2+j]?=some u:=by
 have h0:(x.cl v).toArray[0]?=some (.int .i64 x.node):=by rw [aaG];rfl
 have h1:(x.cl v).toArray[1]?=some (.int .i64 x.no):=by rw [aaG];rfl
 refine ⟨by simpa using Lnk.cl_length h,h0,h1,?_,?_⟩
 ·rw [aaG]
  unfold Lnk.cl;rw [aaz (by simp),aaz (by rw [ai,h.2.2.1.1];simp),ai,h.2.2.1.1];rfl
 ·intro j u hu
  rw [aaG];unfold Lnk.cl;rw [aaz (by simp),show 2+j - [Value.int .i64 x.node,.int .i64 x.no].length=j by simp,aaO (aag.1 hu).1];exact hu
theorem vg (x:Lnk) (A B:Option Addr) (ca cb:Nat) (W:World) (hx:x.ok) (hA:Rd W W.heap.size 1 A x.data.length (ag x.data)) (hB:Rd W W.heap.size 1 B x.data.length (ag x.data)) :
  Calls prog 110 #[.agg (x.cl (.slice A x.data.length ca)).toArray,.agg (x.cl (.slice B x.data.length cb)).toArray] W (Ret (.bool true) W):=by
 obtain ⟨s1,p0,p1,p34,pd⟩:=Yf (v := .slice A x.data.length ca) hx;obtain ⟨s2,r0,r1,r34,rd⟩:=Yf (v := .slice B x.data.length cb) hx;obtain ⟨CA,hCA⟩:∃ CA,(x.cl (.slice A x.data.length ca)).toArray=CA:=⟨_,rfl⟩
 obtain ⟨CB,hCB⟩:∃ CB,(x.cl (.slice B x.data.length cb)).toArray=CB:=⟨_,rfl⟩
 rw [hCA] at s1 p0 p1 p34 pd ⊢;rw [hCB] at s2 r0 r1 r34 rd ⊢;clear hCA hCB;have BA:=(Blk.new W 85 CA _ rfl).alloc (.cells CB 85);have BB:=Blk.new (W.alloc (.cells CA 85)) 85 CB (W.heap.size+1) (by simp);have hb:=bAl (bAl (aj W) (.cells CA 85)) (.cells CB 85);have hq:=fun (u v:Tmp) (w:World)=>YK x.prev x.prev hx.2.2.1.1 hx.2.2.1.1 u v w;rw [decide_eq_true rfl] at hq;replace hq:=aab hq;go_enter func110,ntmps110;go_upto_region 1 with fail;generalize (W.alloc (.cells CA 85)).alloc (.cells CB 85)=w2 at *;have a0:=(BA.cell 0).trans p0;have a1:=(BA.cell 1).trans p1;have a34:=(BA.cell 34).trans p34;have b0:=(BB.cell 0).trans r0;have b1:=(BB.cell 1).trans r1;have b34:=(BB.cell 34).trans r34;have LA:=fF (w:=w2) (g:=W.heap.size) (o:=2) (fun j u hu=>(BA.cell (2+j)).trans (pd j u hu)) hx.2.2.1.1;have LB:=fF (w:=w2) (g:=W.heap.size+1) (o:=2) (fun j u hu=>(BB.cell (2+j)).trans (rd j u hu)) hx.2.2.1.1;have cva:=zg (c:=ca) ((hA.below hb).more hb.size) rfl hx.2.2.2.1;have cvb:=zg (c:=cb) ((hB.below hb).more hb.size) rfl hx.2.2.2.1;clear p0 p1 p34 pd r0 r1 r34 rd;apply wp_region_lit
 iterate 36 go_step
 refine aP (by rfl) (by rfl) (by rfl) LA ?_;simp only [Act.put]
 iterate 2 go_step
 refine aP (by rfl) (by rfl) (by rfl) LB ?_;simp only [Act.put];refine Jo (by rfl) (by rfl) (by rfl) (by rfl) (hq.out _ _ w2) ?_;simp only [Act.put];clear LA LB;go_wp2_with fail;go_ret;exact ⟨aI (by simp),hb⟩
theorem YE:(prog.info? 85).map (·.size)=some 35:=by kernel_rfl
theorem BU {w:World} {B:Nat} {A:Option Addr} {l:List Lnk} {vs:List Value} (h:LksAt w B A l vs) {k:Nat} {x:Lnk} (hx:l[k]?=some x):∃ b off Ad cd,A=some ⟨b,off,none⟩∧x.ok∧Rd w B 1 Ad x.data.length (ag x.data)∧∀ w',Below B w w'→(Instr.loadAt 85 (.pointer (some ⟨b,off+k*35,none⟩))).run prog w' = .ok (.agg (x.cl (.slice Ad x.data.length cd)).toArray) w':=by
 obtain ⟨b,off,Ad,cd,e,hb,ho,hr,hg⟩:=h.at_ hx;refine ⟨b,off,Ad,cd,e,ho,hr,fun w' bw=>?_⟩;exact run_loadAt_mid (P:=prog) w' b (off+k*35) 85 (x.cl (.slice Ad x.data.length cd)) _ (fun j v hj=>(bw.cell (p:=⟨b,off+k*35+j,none⟩) hb).trans (hg j v hj)) underlying85 rfl (by rw [Lnk.cl_length ho];exact YE)
theorem YL (A B:Option Addr) (ca cb:Nat) (l:List Lnk) (vs us:List Value) (W:World) (hA:LksAt W W.heap.size A l vs) (hB:LksAt W W.heap.size B l us) (hn:l.length≤1000000) :
  Calls prog 32 #[.slice A l.length ca,.slice B l.length cb] W (Ret (.bool true) W):=by
 go_enter func32,ntmps32;go_wp2_with fail;go_loopw [5] (fun i wr=>∃ k:Nat,k≤l.length∧i = .int .i64 k∧Below W.heap.size W wr) (fun i _=>l.length - (intOf i).toNat)
 case atStart=>exact ⟨0,aao _,rfl,aj _⟩
 case round =>
  obtain ⟨k,hkn,rfl,hb⟩:=hrel;by_cases hlt:k<l.length
  ·obtain ⟨x,hx⟩:∃ x,Hid (l[k]?=some x):=⟨_,aab (aac hlt)⟩
   obtain ⟨b1,o1,A1,c1,rfl,hxo,hr1,L1⟩:=BU hA hx.out;obtain ⟨b2,o2,A2,c2,rfl,-,hr2,L2⟩:=BU hB hx.out
   have q:Hid (∀ w',Below wr.heap.size wr w'→Calls prog 110 #[.agg (x.cl (.slice A1 x.data.length c1)).toArray,.agg (x.cl (.slice A2 x.data.length c2)).toArray] w' (Ret (.bool true) w')):=aab (fun w' b =>
    vg x A1 A2 c1 c2 w' hxo ((hr1.below (ah hb b)).more (ah hb b).size) ((hr2.below (ah hb b)).more (ah hb b).size))
   have i2:(0:Int)≤(k:Int):=(by omega);have i3:(k:Int)<(l.length:Int):=(by omega);have KS:Hid (∀ w',Below wr.heap.size wr w'→((Instr.loadAt 85 (.pointer (some ⟨b1,o1+k*35,none⟩))).run prog w' = .ok (.agg (x.cl (.slice A1 x.data.length c1)).toArray) w'∧(Instr.loadAt 85 (.pointer (some ⟨b2,o2+k*35,none⟩))).run prog w' = .ok (.agg (x.cl (.slice A2 x.data.length c2)).toArray) w')):=aab (fun w' b=>⟨L1 w' (ah hb b),L2 w' (ah hb b)⟩);clear L1 L2 hr1 hr2 hxo;generalize (x.cl (.slice A1 x.data.length c1)).toArray=C1 at *;generalize (x.cl (.slice A2 x.data.length c2)).toArray=C2 at *;go_upto_region 6 with fail;refine fA (g:=0) KS [(0,1),(1,1),(2,2),(3,2),(4,1),(5,1),(6,2),(7,2),(8,0),(9,1)] ?_;simp only [bf,aap,aar];refine ae ?_;refine ae ?_;refine az ?_;refine az (v:=?vq1) (hv:=?hq1) ?_;case hq1=>(intro w hSw;(first | refine (af rfl rfl hSw).trans ?_ | refine (af rfl rfl hSw.1).trans ?_ | refine (af rfl rfl hSw.2.1).trans ?_ | refine (af rfl rfl hSw.2.2.1).trans ?_ | refine (af rfl rfl hSw.2).trans ?_ | refine (af rfl rfl hSw.2.2).trans ?_);with_reducible rfl)
   refine ae ?_;refine ae ?_;refine az ?_;refine az (v:=?vq2) (hv:=?hq2) ?_;case hq2=>(intro w hSw;(first | refine (af rfl rfl hSw).trans ?_ | refine (af rfl rfl hSw.1).trans ?_ | refine (af rfl rfl hSw.2.1).trans ?_ | refine (af rfl rfl hSw.2.2.1).trans ?_ | refine (af rfl rfl hSw.2).trans ?_ | refine (af rfl rfl hSw.2.2).trans ?_);with_reducible rfl)
   refine bW (fun K hK=>?_);go_simp;(first | (go_at_call 110;(with_reducible refine (q.out _ (by with_reducible exact bDr (aj _))).mono ?_);rintro e w6 ⟨rfl,b6⟩;have B6:Below wr.heap.size wr w6:=ah (bDr (aj _)) b6) | skip);refine aH hK KS ?_;clear hK K;refine ae ?_;refine jk ?_;refine NoPanic.normal ?_;go_wp2_with fail;exact ⟨⟨k+1,by omega,by go_num,ah hb B6⟩,by simp [intOf];omega⟩
  ·go_wp2_with fail
   go_ret;exact ⟨rfl,hb⟩
theorem YC (A B:Option Addr) (ca cb:Nat) (l:List Ltr) (W:World) (hA:Rd W W.heap.size 6 A l.length (l.flatMap Ltr.cl)) (hB:Rd W W.heap.size 6 B l.length (l.flatMap Ltr.cl)) (hn:l.length≤1000000) :
  Calls prog 35 #[.slice A l.length ca,.slice B l.length cb] W (Ret (.bool true) W):=by
 go_enter func35,ntmps35;go_wp2_with fail;go_loopw [5] (fun i wr=>∃ k:Nat,k≤l.length∧i = .int .i64 k∧Below W.heap.size W wr) (fun i _=>l.length - (intOf i).toNat)
 case atStart=>exact ⟨0,aao _,rfl,aj _⟩
 case round =>
  obtain ⟨k,hkn,rfl,hb⟩:=hrel;by_cases hlt:k<l.length
  ·obtain ⟨x,hx⟩:∃ x,Hid (l[k]?=some x):=⟨_,aab (aac hlt)⟩
   obtain ⟨b1,o1,rfl,h1,x0,x1,x2,x3,x4,x5⟩:=jS ((hA.below hb).more hb.size) hlt hx.out;obtain ⟨b2,o2,rfl,h2,y0,y1,y2,y3,y4,y5⟩:=jS ((hB.below hb).more hb.size) hlt hx.out;have hne:=EX x x;unfold Ltr.agg at hne;rw [Ltr.eqB_iff.2 rfl] at hne;have i2:(0:Int)≤(k:Int):=(by omega);have i3:(k:Int)<(l.length:Int):=(by omega);go_upto_region 6 with fail;go_quiet (fail)
   go_wp2_with fail;exact ⟨⟨k+1,by omega,by go_num,o8 hb _⟩,by simp [intOf];omega⟩
  ·go_wp2_with fail
   go_ret;exact ⟨rfl,hb⟩
end
section
open Go.RowKit
abbrev Yj (n:Int):Value := .agg #[.int .i64 1,.int .i64 n,.string ⟨#[]⟩,.slice none 0 0]
abbrev Yy (s:ByteArray):Value := .agg #[.int .i64 2,.int .i64 0,.string s,.slice none 0 0]
theorem X0 (n:Int) (W:World):Calls prog 115 #[.int .i64 n] W (Ret (Yj n) W):=by
 have hb:=bAl (aj W) (.cells #[.int .i64 1,.int .i64 n,.string ⟨#[]⟩,.slice none 0 0] 169);go_enter func115,ntmps115;go_wp2_with fail;exact bodyPost_ret (v:=Yj n) (by simp [results,results115,go_sem,Yj]) rfl ⟨rfl,hb⟩
def Yx (l:List It) (W:World) (r:Ending) (w':World):Prop:=∃ A c,r = .returned (gJ A l.length c)∧Below W.heap.size W w'∧Rd w' w'.heap.size 4 A l.length (l.flatMap It.cells)
def Yv (l:List It) (W:World) (r:Ending) (w':World):Prop:=∃ A c,r = .returned (gJ A l.length c)∧Below W.heap.size W w'∧w'.ownsRow W.heap.size 169 4 (.slice A l.length c) l.length (l.flatMap It.cells)
theorem Yg (A:Option Addr) (n c:Nat) (l:List Int) (W:World) (hA:Rd W W.heap.size 1 A n (ints l)) (hn:n≤100) :
  Calls prog 113 #[.slice A n c] W (Yv (l.map It.int) W):=by
 obtain rfl:l.length=n:=by have:=hA.1;rw [lU,aaA] at this;exact this
 go_enter func113,ntmps113;go_upto_region 2 with fail;have BR:=(Blk.new W 169 #[.int .i64 0,.int .i64 0,.string ⟨#[]⟩,.slice none 0 0] _ rfl).alloc (.cells #[.int .i64 3,.int .i64 0,.string ⟨#[]⟩,.slice none 0 0] 169);have BV:=Blk.new (W.alloc (.cells #[.int .i64 0,.int .i64 0,.string ⟨#[]⟩,.slice none 0 0] 169)) 169 #[.int .i64 3,.int .i64 0,.string ⟨#[]⟩,.slice none 0 0] (W.heap.size+1) (by simp);have hb:=bAl (bAl (aj W) (.cells #[.int .i64 0,.int .i64 0,.string ⟨#[]⟩,.slice none 0 0] 169)) (.cells #[.int .i64 3,.int .i64 0,.string ⟨#[]⟩,.slice none 0 0] 169);generalize (W.alloc (.cells #[.int .i64 0,.int .i64 0,.string ⟨#[]⟩,.slice none 0 0] 169)).alloc (.cells #[.int .i64 3,.int .i64 0,.string ⟨#[]⟩,.slice none 0 0] 169)=w1 at *;go_wp2_with fail;go_loopw [4] (fun i wr=>∃ (k:Nat) (v:Value),k≤l.length∧i = .int .i64 k∧Below W.heap.size W wr∧Blk wr W.heap.size 169 #[.int .i64 0,.int .i64 0,.string ⟨#[]⟩,.slice none 0 0]∧Blk wr (W.heap.size+1) 169 #[.int .i64 3,.int .i64 0,.string ⟨#[]⟩,v]∧wr.ownsRow (W.heap.size+2) 169 4 v k (((l.take k).map It.int).flatMap It.cells)) (fun i _=>l.length - (intOf i).toNat)
 case atStart=>exact ⟨0,_,aao _,rfl,hb,BR,BV,World.ownsRow_nil _ _ _ _⟩
 case round =>
  clear hb BV BR;obtain ⟨k,v,hk,rfl,hb,BR,BV,hown⟩:=hrel;by_cases hlt:k<l.length
  ·obtain ⟨x,hx⟩:∃ x,Hid (l[k]?=some x):=⟨_,aab (aac hlt)⟩
   obtain ⟨b,off,rfl,hbb,d0⟩:=jq (hA.below hb) hlt hx.out
   have hsn:Hid (((l.take (k+1)).map It.int).flatMap It.cells=((l.take k).map It.int).flatMap It.cells++(It.int x).cells):=by
    obtain ⟨hk,rfl⟩:=aag.1 hx.out;show _=_;rw [aaB hk,aaT,aaP];simp
   have hbs:W.heap.size+1<wr.heap.size:=BV.lt;have hone:=xY (.int x);have h63:k+1≤maxLen:=(by unfold maxLen;omega);have hby:(k+1)*56≤140737488355328:=(by omega);have i0:(0:Int)≤(k:Int):=(by omega);have i1:(k:Int)<(l.length:Int):=(by omega);have KS:Hid (∀ w',Below wr.heap.size wr w'→w'.cell? ⟨W.heap.size+1,3,none⟩=some v∧w'.cell? ⟨b,off+k,none⟩=some (.int .i64 x)):=aab (fun w' h=>⟨(BV.below h BV.lt).cell 3,(h.cell (p:=⟨b,off+k,none⟩) (aaS hbb hb.size)).trans d0⟩);clear d0;go_upto_region 5 with fail;refine aK (f:=8) KS [(0,1),(1,2),(2,1),(3,1),(4,1),(5,2),(6,0),(7,0),(8,3),(9,3),(10,3)] ?_;simp only [bf,aap,aar];refine ak ?_;refine ax ?_
   iterate 3 refine ak ?_
   refine ax ?_;refine au (fun K hK=>?_);go_simp;(first | (go_at_call 115;(with_reducible refine (X0 x wr.drew).mono ?_);unfold Yj;rintro e w9 ⟨rfl,b9⟩;have B7:Below wr.heap.size wr w9:=ah (bDr (aj _)) b9) | skip);refine aH hK KS ?_;clear hK K;refine au (fun K hK=>?_);go_simp;(first | (go_at_call 115;(with_reducible refine (X0 x wr.drew).mono ?_);unfold Yj;rintro e w9 ⟨rfl,b9⟩;have B7:Below wr.heap.size wr w9:=ah (bDr (aj _)) b9) | skip);refine aH hK KS ?_;clear hK K;refine aN ?_
   first | simp only [aak] | simp only [aat,aak]
   have hown9:w9.ownsRow (W.heap.size+2) 169 4 v k _:=aC hown B7;have BV9:=BV.below B7 BV.lt;have BR9:=BR.below B7 BR.lt;have hb9:=ah hb B7;have hs9:W.heap.size+2≤w9.heap.size:=aaj hbs B7.size;refine aO w9 [.int .i64 1,.int .i64 x,.string ⟨#[]⟩,.slice none 0 0] (.tmp 13) (.tmp 19) 167 (W.heap.size+2) 169 (.agg #[.int .i64 0,.int .i64 0,.string ⟨#[]⟩,.slice none 0 0]) 4 56 v k (((l.take k).map It.int).flatMap It.cells) (by rfl) (by rfl) underlying167 gB rfl (by omega) (by rfl) hown9 (by rfl) rfl hone h63 hby hs9 ?_;intro v' w' hown4 hg4;obtain ⟨g',cap',rfl⟩:=ownsRow_succ hown4;have b4:=hg4.below hown9 hs9;have BV4:=BV9.below b4 (by omega);have BR4:=BR9.below b4 (by omega);have c4:=kV BV4;have z4:=BV4.frozen 3;have hb4:=hb9.trans (b4.mono (by omega));clear KS B7 hown9 BV9 BR9 hb9 hs9 b4 hown hb BR BV hg4;go_wp2_with fail;refine NoPanic.normal ?_;go_wp2_with fail;exact ⟨⟨k+1,_,by omega,by go_num,zQ7 hb4 (by show W.heap.size≤W.heap.size+1;omega) _,BR4.far (by show W.heap.size≠W.heap.size+1;omega) _,BV4.set_ 3 _,by rw [hsn.out];exact gX hown4 (p:=⟨W.heap.size+1,3,none⟩) (by show W.heap.size+1<W.heap.size+2;omega) _⟩,by simp [intOf];omega⟩
  ·have hkn:k=l.length:=by omega
   rw [hkn,abk] at hown;clear hkn;obtain ⟨A2,c2,hv,hR,_⟩:=Sl.of_own hown;subst hv;obtain ⟨e0,e1,e2,e3⟩:=dY BV;have z0:=BR.frozen 0;have z1:=BR.frozen 1;have z2:=BR.frozen 2;have z3:=BR.frozen 3;obtain ⟨y0,y1,y2,y3⟩:=dY BR;have hlm:Hid ((l.map It.int).length=l.length):=(by show _=_;simp);have hown2:=gX (gX (gX (gX hown (p:=⟨W.heap.size,0,none⟩) (by show W.heap.size<W.heap.size+2;omega) (.int .i64 3)) (p:=⟨W.heap.size,1,none⟩) (by show W.heap.size<W.heap.size+2;omega) (.int .i64 0)) (p:=⟨W.heap.size,2,none⟩) (by show W.heap.size<W.heap.size+2;omega) (.string ⟨#[]⟩)) (p:=⟨W.heap.size,3,none⟩) (by show W.heap.size<W.heap.size+2;omega) (.slice A2 l.length c2);have hb2:=zQ7 (zQ7 (zQ7 (zQ7 hb (p:=⟨W.heap.size,0,none⟩) (aad _) (.int .i64 3)) (p:=⟨W.heap.size,1,none⟩) (aad _) (.int .i64 0)) (p:=⟨W.heap.size,2,none⟩) (aad _) (.string ⟨#[]⟩)) (p:=⟨W.heap.size,3,none⟩) (aad _) (.slice A2 l.length c2);have BR2:=(((BR.set_ 0 (.int .i64 3)).set_ 1 (.int .i64 0)).set_ 2 (.string ⟨#[]⟩)).set_ 3 (.slice A2 l.length c2);go_wp2_with fail;generalize (((wr.setCell ⟨W.heap.size,0,none⟩ (.int .i64 3)).setCell ⟨W.heap.size,1,none⟩ (.int .i64 0)).setCell ⟨W.heap.size,2,none⟩ (.string ⟨#[]⟩)).setCell ⟨W.heap.size,3,none⟩ (.slice A2 l.length c2)=w8 at *;have r0:w8.cell? ⟨W.heap.size,0,none⟩=some (.int .i64 3):=(by simpa using BR2.cell 0);have r1:w8.cell? ⟨W.heap.size,1,none⟩=some (.int .i64 0):=(by simpa using BR2.cell 1);have r2:w8.cell? ⟨W.heap.size,2,none⟩=some (.string ⟨#[]⟩):=by simpa using BR2.cell 2
   have r3:w8.cell? ⟨W.heap.size,3,none⟩=some (.slice A2 l.length c2):=(by simpa using BR2.cell 3);exact bodyPost_ret (v:=gJ A2 l.length c2) (by simp [results,results113,go_sem,gJ,r0,r1,r2,r3]) rfl ⟨A2,c2,by rw [hlm.out],hb2,by rw [hlm.out];exact own_base hown2 (by omega)⟩
theorem DY {w:World} {A:Option Addr} {c:Nat} {d:List Nat} (h:Rd w w.heap.size 1 A 32 (ag d)) (hl:d.length=32) (ho:okB d):(convert 83 9 (.slice A 32 c)).run prog w = .ok (.string (dgS d)) w:=by
 obtain ⟨b,off,rfl,_,hc⟩:=h.2 (by omega)
 have:=run_convert_bytes_back (P:=prog) w 83 9 5 ⟨b,off,none⟩ c (dgB d) underlying83 underlying5 underlying9 (fun j hj=>by
  have hj':j<d.length:=by simpa [dgB] using hj
  rw [dX,JU ho j hj];refine hc j _ ?_;simp [ag,hj'])
 rw [show (dgB d).length=32 by simp [dgB,hl]] at this;exact this
theorem UC (s:ByteArray) (W:World):Calls prog 114 #[.string s] W (Ret (Yy s) W):=by
 have hb:=bAl (aj W) (.cells #[.int .i64 2,.int .i64 0,.string s,.slice none 0 0] 169);go_enter func114,ntmps114;go_wp2_with fail;exact bodyPost_ret (v:=Yy s) (by simp [results,results114,go_sem,Yy]) rfl ⟨rfl,hb⟩
theorem ve {w:World} {base:Nat} {e:TypeId} {size n:Nat} {v:Value} {xs:List Value} (h:w.ownsRow base e size v n xs) {p:Addr} (hp:v.ownBlock≠some p.block) (u:Value):(w.setCell p u).ownsRow base e size v n xs:=by
 refine h.kept (row:=some p.block) ⟨rfl,rfl,rfl,by simp [World.setCell],fun k _ hk=>Below.heap_setCell _ _ _ k (fun e=>hk (by rw [e]))⟩ ?_;cases hv:v.ownBlock with
 | none=>exact .inl rfl
 | some k=>exact .inr (by rw [←hv];exact hp)
theorem YF {w:World} {g:Nat} {h:Hd} (B:Blk w g 33 h.cl.toArray) (ho:h.ok):(convert 83 9 (.slice (some ⟨g,7,none⟩) 32 32)).run prog w = .ok (.string (dgS h.root)) w:=by
 have hr:=ho.2.2.2.2.2.2.2.1;refine DY ⟨by rw [ai,hr.1],fun _=>⟨g,7,rfl,B.lt,fun j u hu=>?_⟩⟩ hr.1 hr.2;have hj:j<32:=by have:=(aag.1 hu).1;rwa [ai,hr.1] at this
 rw [B.cell,aaG,(Hd.cells ho).2.2.2.2.2.2.2.1 j hj];exact hu
theorem YM {h:Hd} (ho:h.ok):∀ x∈h.its,x.ok:=by
 obtain ⟨h1,h2,h3,h4,h5,h6,h7,⟨h8,_⟩,h9,_⟩:=ho;intro x hx;simp only [Hd.its,aaq,aaw,or_false] at hx;rcases hx with rfl | rfl | rfl | rfl | rfl | rfl | rfl | rfl | rfl
 ·exact h1
 ·exact h2
 ·exact h3
 ·exact h4
 ·exact h5
 ·exact h6
 ·exact h7
 ·show (dgS h.root).size≤1000000;rw [sH,h8];omega
 ·exact h9
theorem YA (h:Hd) (ho:h.ok) (W:World):Calls prog 36 #[.agg h.cl.toArray] W (kL 1 h.text.length (ag h.text) W):=by
 obtain ⟨cs,hcs⟩:∃ cs,h.cl.toArray=cs:=⟨_,rfl⟩
 have BH:=Blk.new W 33 cs _ rfl;have hb:=bAl (aj W) (.cells cs 33);rw [hcs];obtain ⟨c0,c1,c2,c3,c4,c5,c6,c39,c40,c41⟩:=HdAt.of BH hcs.symm ho;go_enter func36,ntmps36;go_upto_region 1 with fail;generalize W.alloc (.cells cs 33)=w1 at *;have hb1:=bAl hb (.cells #[.int .i64 h.line,.int .i64 h.at_,.int .i64 h.arrive,.int .i64 h.leg,.int .i64 h.from_,.int .i64 h.to_,.int .i64 h.many] 3);have BH1:=BH.alloc (.cells #[.int .i64 h.line,.int .i64 h.at_,.int .i64 h.arrive,.int .i64 h.leg,.int .i64 h.from_,.int .i64 h.to_,.int .i64 h.many] 3);have q:=Yg (some ⟨w1.heap.size,0,none⟩) 7 7 [h.line,h.at_,h.arrive,h.leg,h.from_,h.to_,h.many] (w1.alloc (.cells #[.int .i64 h.line,.int .i64 h.at_,.int .i64 h.arrive,.int .i64 h.leg,.int .i64 h.from_,.int .i64 h.to_,.int .i64 h.many] 3)) (RdT.of_blk (n:=7) (xs:=ints [h.line,h.at_,h.arrive,h.leg,h.from_,h.to_,h.many]) (Blk.new w1 3 _ _ rfl) rfl).rd (by omega);go_wp2_with fail;refine q.mono ?_;rintro e w2 ⟨A2,k2,rfl,b2,hown⟩;have hb2:=ah hb1 b2;have BH2:=BH1.below b2 BH1.lt;have hbs:W.heap.size≤(w1.alloc (.cells #[.int .i64 h.line,.int .i64 h.at_,.int .i64 h.arrive,.int .i64 h.leg,.int .i64 h.from_,.int .i64 h.to_,.int .i64 h.many] 3)).heap.size:=hb1.size;have hbs2:=b2.size;clear q c0 c1 c2 c3 c4 c5 c6 c39 c40 c41 b2 hb hb1 BH BH1;generalize (w1.alloc (.cells #[.int .i64 h.line,.int .i64 h.at_,.int .i64 h.arrive,.int .i64 h.leg,.int .i64 h.from_,.int .i64 h.to_,.int .i64 h.many] 3)).heap.size=base at *;unfold gJ;simp only [aaQ,aas,List.length_nil,Nat.reduceAdd] at hown ⊢
 go_upto_region 2 with fail;have hne:(Value.slice A2 7 k2).ownBlock≠some w2.heap.size:=fun e=>by have:=(hown.lt _ e).2;omega
 have BV:=Blk.new w2 169 #[.int .i64 3,.int .i64 0,.string ⟨#[]⟩,.slice A2 7 k2] _ rfl;have BH3:=BH2.alloc (.cells #[.int .i64 3,.int .i64 0,.string ⟨#[]⟩,.slice A2 7 k2] 169);have hb3:=bAl hb2 (.cells #[.int .i64 3,.int .i64 0,.string ⟨#[]⟩,.slice A2 7 k2] 169);have hown3:=aC hown (bAl (aj w2) (.cells #[.int .i64 3,.int .i64 0,.string ⟨#[]⟩,.slice A2 7 k2] 169));have hv2:W.heap.size≤w2.heap.size:=hb2.size;clear BH2 hb2 hown;generalize w2.alloc (.cells #[.int .i64 3,.int .i64 0,.string ⟨#[]⟩,.slice A2 7 k2] 169)=w3 at *;generalize w2.heap.size=vb at *;have hvl:vb<w3.heap.size:=BV.lt;have KS:Hid (∀ w',Below w3.heap.size w3 w'→w'.cell? ⟨vb,3,none⟩=some (.slice A2 7 k2)∧(convert 83 9 (.slice (some ⟨W.heap.size,7,none⟩) 32 32)).run prog w' = .ok (.string (dgS h.root)) w'∧w'.cell? ⟨W.heap.size,39,none⟩=some (.int .i64 h.time)):=aab (fun w' b=>⟨(BV.below b BV.lt).cell 3,YF (hcs▸(BH3.below b BH3.lt)) ho,(HdAt.of (BH3.below b BH3.lt) hcs.symm ho).c39⟩);have q1:∀ n w,_:=X0;unfold Yj at q1;have q2:∀ s w,_:=UC;unfold Yy at q2;have Hcs:=aab hcs;clear hcs;refine aK (f:=10) KS [(0,1),(1,2),(2,1),(3,1),(4,2),(6,1),(7,2),(5,0),(8,0),(9,0),(10,3),(11,3),(12,3)] ?_;simp only [bf,aap,aar];refine ak ?_;refine ax ?_
 iterate 2 refine ak ?_
 refine ax ?_;refine ak ?_;refine ax ?_;refine au (fun K hK=>?_);go_simp;(first | (go_at_call 115;(with_reducible refine (q1 _ _).mono ?_);rintro e w9 ⟨rfl,b9⟩;have B7:Below w3.heap.size w3 w9:=ah (by repeat (first | with_reducible exact B7 | with_reducible exact aj _ | with_reducible refine bDr ?_ | with_reducible refine bAl ?_ _)) b9) | (go_at_call 114;(with_reducible refine (q2 _ _).mono ?_);rintro e w9 ⟨rfl,b9⟩;have B7:Below w3.heap.size w3 w9:=ah (by repeat (first | with_reducible exact B7 | with_reducible exact aj _ | with_reducible refine bDr ?_ | with_reducible refine bAl ?_ _)) b9) | skip);refine aH hK KS ?_;clear hK K;refine au (fun K hK=>?_);go_simp;(first | (go_at_call 115;(with_reducible refine (q1 _ _).mono ?_);rintro e w9 ⟨rfl,b9⟩;have B7:Below w3.heap.size w3 w9:=ah (by repeat (first | with_reducible exact B7 | with_reducible exact aj _ | with_reducible refine bDr ?_ | with_reducible refine bAl ?_ _)) b9) | (go_at_call 114;(with_reducible refine (q2 _ _).mono ?_);rintro e w9 ⟨rfl,b9⟩;have B7:Below w3.heap.size w3 w9:=ah (by repeat (first | with_reducible exact B7 | with_reducible exact aj _ | with_reducible refine bDr ?_ | with_reducible refine bAl ?_ _)) b9) | skip);refine aH hK KS ?_;clear hK K;refine au (fun K hK=>?_);go_simp;(first | (go_at_call 115;(with_reducible refine (q1 _ _).mono ?_);rintro e w9 ⟨rfl,b9⟩;have B7:Below w3.heap.size w3 w9:=ah (by repeat (first | with_reducible exact B7 | with_reducible exact aj _ | with_reducible refine bDr ?_ | with_reducible refine bAl ?_ _)) b9) | (go_at_call 114;(with_reducible refine (q2 _ _).mono ?_);rintro e w9 ⟨rfl,b9⟩;have B7:Below w3.heap.size w3 w9:=ah (by repeat (first | with_reducible exact B7 | with_reducible exact aj _ | with_reducible refine bDr ?_ | with_reducible refine bAl ?_ _)) b9) | skip)
 refine aH hK KS ?_;clear hK K;refine aN ?_
 first | simp only [aak] | simp only [aat,aak]
 have b10:=bAl B7 (.cells #[.int .i64 2,.int .i64 0,.string (dgS h.root),.slice none 0 0,.int .i64 1,.int .i64 h.time,.string ⟨#[]⟩,.slice none 0 0] 169);have hown9:=aC hown3 b10;have BV9:=BV.below b10 BV.lt;have hb9:=ah hb3 b10;have HR:=Rd.new w9 [.int .i64 2,.int .i64 0,.string (dgS h.root),.slice none 0 0,.int .i64 1,.int .i64 h.time,.string ⟨#[]⟩,.slice none 0 0] 169 4 2 _ rfl rfl;have hs9:=b10.size;clear KS q1 q2 B7 b10 BV BH3 hb3 hown3;refine bT (.tmp 26) (.tmp 34) 167 base 169 (.agg #[.int .i64 0,.int .i64 0,.string ⟨#[]⟩,.slice none 0 0]) 4 56 (.slice A2 7 k2) 7 _ (some ⟨w9.heap.size,0,none⟩) 2 2 _ [.int .i64 2,.int .i64 0,.string (dgS h.root),.slice none 0 0,.int .i64 1,.int .i64 h.time,.string ⟨#[]⟩,.slice none 0 0] (by rfl) (by rfl) underlying167 gB rfl (by omega) (by rfl) hown9 (by rfl) HR (by intro h;cases h) (by intro u hu;simp only [aaq,aaw,or_false] at hu;rcases hu with rfl | rfl | rfl | rfl | rfl | rfl | rfl | rfl <;> rfl) (by unfold maxLen;omega) (by omega) (by omega) ?_;intro v' w' hown4 hg4;obtain ⟨A5,k5,rfl,-⟩:=Sl.of_own hown4;have hv9:vb<(w9.alloc (.cells #[.int .i64 2,.int .i64 0,.string (dgS h.root),.slice none 0 0,.int .i64 1,.int .i64 h.time,.string ⟨#[]⟩,.slice none 0 0] 169)).heap.size:=BV9.lt;have BV4:Blk w' vb 169 #[.int .i64 3,.int .i64 0,.string ⟨#[]⟩,.slice A2 7 k2]:=(hg4.other hv9 (fun e=>hne e.symm)).trans BV9
 have hne4:(Value.slice A5 (7+2) k5).ownBlock≠some vb:=by
  rcases hg4.2 with e | ⟨g,e,hg⟩
  ·rw [e];exact hne
  ·rw [e];intro e2;injection e2 with e2;omega
 have hb4:=hb9.trans ((hg4.below hown9 (by omega)).mono (by omega));have c3:=kV BV4;have z3:=BV4.frozen 3;have hown5:=ve hown4 (p:=⟨vb,3,none⟩) hne4 (.slice A5 (7+2) k5);have BV5:=BV4.set_ 3 (.slice A5 (7+2) k5);have hb5:=zQ7 hb4 (p:=⟨vb,3,none⟩) hv2 (.slice A5 (7+2) k5);clear hg4 hown9 BV9 hb9 HR hown4 BV4 hne4 hne hb4;go_wp2_with fail;refine NoPanic.normal ?_;go_upto_region 3 with fail;generalize w'.setCell ⟨vb,3,none⟩ (.slice A5 (7+2) k5)=w5 at *;obtain ⟨A6,k6,hv6,hR5,_⟩:=Sl.of_own hown5;injection hv6 with hA6 _ hk6
 subst hA6;subst hk6;obtain ⟨m0,m1,m2,m3⟩:=dY BV5;have hits:Hid (bZ h.its=h.text):=aab rfl;have q:=LM A5 9 k5 h.its w5 hR5 (YM ho) (by omega);rw [hits.out] at q;unfold gJ at q;clear c3 z3 hown5 BV5 hR5;go_wp2_with fail;refine q.mono ?_;rintro e w6 ⟨v6,rfl,b6,hS⟩;have hb6:=ah hb5 b6;clear q m0 m1 m2 m3;go_wp2_with fail;go_ret;exact ⟨_,rfl,hb6,hS⟩
end
section
open Go Go.RowKit
section
variable {A1 A2:Option Addr} {c1 c2:Nat} {bare proofs:List Ltr} {s:MS} {m:Mx} {h:Hd}
theorem YG {w:World} {g:Nat} {J:Array Value} (ho:h.ok) (B:Blk w g 49 J) (hJ:J=sQ A1 A2 c1 c2 bare proofs s m h):(Instr.loadAt 33 (.pointer (some ⟨g,7,none⟩))).run prog w = .ok (.agg h.cl.toArray) w :=
 run_loadAt_mid (P:=prog) w g 7 33 h.cl _ (fun j v hj=>by rw [B.cell,hJ,←hj];exact FP _ _ _ _ _ _ _ _ _) underlying33 rfl (by rw [Hd.cl_length ho];exact cO)
theorem YD (ho:h.ok):(sQ A1 A2 c1 c2 bare proofs s m h).size=49:=by
 have:=Hd.cl_length ho
 unfold sQ oV;rw [aae];simp only [aas];omega
end
theorem YQ (d:List Nat) (hd:d.length=32) (n:Nat) (w:World):(Op.equalIn (n+1+1) 29 (.agg (ag d).toArray) (.agg (ag d).toArray)).run prog w = .ok true w:=by
 obtain ⟨i0,hi⟩:∃ i,prog.info? 5=some i:=info_of_underlying underlying5;have hc:prog.cellsOf 5=1:=by kernel_rfl
 rw [run_equalIn_array w (n+1) _ _ underlying29 hi,hc,qE n d d w _ (by intro i hi;have:=aaE.1 hi;omega)]
 simp
theorem YH {h:Hd} (ho:h.ok):((h.cl.drop 7).take 32).toArray=(ag h.root).toArray:=by
 congr 1;have h1:(ag h.root).length=32:=by rw [ai,ho.2.2.2.2.2.2.2.1.1]
 unfold Hd.cl;simp [h1]
theorem YI {h:Hd} (ho:h.ok) (w:World):(Op.equalIn 10000 33 (.agg h.cl.toArray) (.agg h.cl.toArray)).run prog w = .ok true w:=by
 have hS:prog.underlying 33=some (.struct (prog.fieldsOf 33)):=by kernel_rfl
 have hp:prog.stoodInHeld 33=false:=by kernel_rfl
 have e1:=YQ h.root ho.2.2.2.2.2.2.2.1.1 9997 w;have e2:=YH ho;obtain ⟨f0,f1,f2,f3,f4,f5,f6,-,f8,f9,f10⟩:=Hd.cells ho;rw [show (10000:Nat)=9999+1 from rfl,run_equalIn_agg w 9999 33 _ _ hS hp];simp only [Program.fieldsOf,underlying33];go_simp
theorem YN {h:Hd} (ho:h.ok) (w:World):(binOp .eql 33 (.agg h.cl.toArray) (.agg h.cl.toArray)).run prog w = .ok (.bool true) w:=by
 rw [run_eql_struct,YI ho];rfl
theorem bi {A1 A2:Option Addr} {c1 c2:Nat} {bare proofs:List Ltr} {s:MS} {m:Mx} {h:Hd} : (sQ A1 A2 c1 c2 bare proofs s m h)[0]?=some (.slice A1 bare.length c1):=rfl
theorem uu {A1 A2:Option Addr} {c1 c2:Nat} {bare proofs:List Ltr} {s:MS} {m:Mx} {h:Hd} : (sQ A1 A2 c1 c2 bare proofs s m h)[2]?=some (.slice s.a0 m.inn.length s.c0):=rfl
theorem YJ {A1 A2 B1 B2:Option Addr} {c1 c2 d1 d2:Nat} {bare proofs:List Ltr} {s u:MS} {m:Mx} {h:Hd} (e:sQ A1 A2 c1 c2 bare proofs s m h=sQ B1 B2 d1 d2 bare proofs u m h):A1=B1∧s.a0=u.a0∧s.a2=u.a2:=by
 have e0:(sQ A1 A2 c1 c2 bare proofs s m h)[0]?=(sQ B1 B2 d1 d2 bare proofs u m h)[0]?:=by rw [e]
 have e2:(sQ A1 A2 c1 c2 bare proofs s m h)[2]?=(sQ B1 B2 d1 d2 bare proofs u m h)[2]?:=by rw [e]
 have e4:(sQ A1 A2 c1 c2 bare proofs s m h)[4]?=(sQ B1 B2 d1 d2 bare proofs u m h)[4]?:=by rw [e]
 rw [bi,bi] at e0;rw [uu,uu] at e2;rw [xG,xG] at e4;exact ⟨(Value.slice.inj (Option.some.inj e0)).1,(Value.slice.inj (Option.some.inj e2)).1,(Value.slice.inj (Option.some.inj e4)).1⟩
theorem YR {h:Hd} (ho:h.ok) (e s:Int):(h.cl.take 40++[.int .i64 e,.int .i64 s]++h.cl.drop 42)=({ h with e:=e,s:=s } : Hd).cl:=by
 have h1:(ag h.root).length=32:=by rw [ai,ho.2.2.2.2.2.2.2.1.1]
 have hl:=Hd.cl_length ho;rw [abl (by omega),abe]
 have e0:h.cl=([.int .i64 h.line,.int .i64 h.at_,.int .i64 h.arrive,.int .i64 h.leg,.int .i64 h.from_,.int .i64 h.to_,.int .i64 h.many]++ag h.root++[.int .i64 h.time])++[.int .i64 h.e,.int .i64 h.s]:=by
  unfold Hd.cl
  simp
 have e1:({ h with e:=e,s:=s } : Hd).cl=([.int .i64 h.line,.int .i64 h.at_,.int .i64 h.arrive,.int .i64 h.leg,.int .i64 h.from_,.int .i64 h.to_,.int .i64 h.many]++ag h.root++[.int .i64 h.time])++[.int .i64 e,.int .i64 s]:=by
  unfold Hd.cl
  simp
 rw [e0,e1,List.take_left' (by rw [aan,aan,h1];rfl)]
theorem YO {h:Hd} (ho:h.ok) {n:Int} (hn:inI n) {d:List Nat} (hd:dL d) (e s:Int) :
  ((((h.cl.toArray.setIfInBounds 6 (.int .i64 n)).toList.take 7 ++ (ag d).toArray.toList ++ (h.cl.toArray.setIfInBounds 6 (.int .i64 n)).toList.drop (7 + (ag d).toArray.size)).toArray).toList.take 40 ++ (#[.int .i64 e, .int .i64 s] : Array Value).toList ++
    (((h.cl.toArray.setIfInBounds 6 (.int .i64 n)).toList.take 7++(ag d).toArray.toList++(h.cl.toArray.setIfInBounds 6 (.int .i64 n)).toList.drop (7+(ag d).toArray.size)).toArray).toList.drop (40+(#[.int .i64 e,.int .i64 s]:Array Value).size)).toArray=({ h with many:=n,root:=d,e:=e,s:=s } : Hd).cl.toArray:=by
 rw [NQ];have h1:=Hd.ok_many ho hn;have e1:=NR h1 hd.1;have h2:=Hd.ok_root h1 hd;have e2:=YR h2 e s
 have e3:((({ h with many:=n } : Hd).cl.toArray.toList.take 7++(ag d).toArray.toList++({ h with many:=n } : Hd).cl.toArray.toList.drop (7+(ag d).toArray.size)).toArray)=({ h with many:=n,root:=d } : Hd).cl.toArray:=by
  rw [←e1]
  simp
 rw [e3];exact congrArg List.toArray e2
theorem HY {o:Ofc} {n:Nat} {t:Trn} (h:Jd o n t=true):n≤80:=by
 unfold Jd PW at h;simp only [aal,Bool.or_eq_true,decide_eq_true_eq] at h;rcases h.2.2.1 with h1 | h1 <;> omega
theorem LD (X:Array Value) (o:Ofc) (rest:Int) (h:Hd) (A2:Option Addr) (c2:Nat) (inn:List Ltr) (s:TS) (t:Trn) (W:World) (hG:ShaG W) (hO:Xz W X.toList o) (_irest:inI rest) (ho:h.ok) (hI:WW W A2 inn) (hT:TurnAt W W.heap.size s t) :
  Calls prog 7 #[.agg X,.int .i64 rest,.agg h.cl.toArray,.slice A2 inn.length c2,.agg (s.cl t)] W (Ret (.bool true) W):=by
 obtain ⟨A,c,vs,Au,cu,hX,hA,hcap,hnilA,hU,hok,hnilU,ino,isec⟩:=hO;obtain rfl:X=#[.int .i64 o.no,.int .i64 o.secret,.slice A o.chain.length c,.slice Au o.used.length cu]:=Array.toList_inj.1 hX;clear hX ino isec;obtain ⟨hI0,hio,hin⟩:=hI;have hcl:Hid (h.cl.toArray.size=42):=aab (by simpa using Hd.cl_length ho);have hone:Hid (∀ v∈h.cl.toArray.toList,v.oneCell'=true):=aab (by simpa using Hd.one h);obtain ⟨hC,hhC⟩:∃ hC,Hid (h.cl.toArray=hC):=⟨_,aab rfl⟩
 rw [hhC.out] at hcl hone ⊢;obtain ⟨a0,a1,a2,a3,a4,k0,k1,k2,k3,k4⟩:=s;have hTs:(⟨a0,a1,a2,a3,a4,k0,k1,k2,k3,k4⟩:TS).cl t=#[.slice a0 t.left.length k0,.slice a1 t.right.length k1,.slice a2 t.rl.length k2,.slice a3 t.rr.length k3,.slice a4 t.salts.length k4]:=rfl;rw [hTs];have hb:=bAl (bAl (bAl (aj W) (.cells #[.int .i64 o.no,.int .i64 o.secret,.slice A o.chain.length c,.slice Au o.used.length cu] 25)) (.cells hC 33)) (.cells #[.slice a0 t.left.length k0,.slice a1 t.right.length k1,.slice a2 t.rl.length k2,.slice a3 t.rr.length k3,.slice a4 t.salts.length k4] 39);have BO:=((Blk.new W 25 #[.int .i64 o.no,.int .i64 o.secret,.slice A o.chain.length c,.slice Au o.used.length cu] _ rfl).alloc (.cells hC 33)).alloc (.cells #[.slice a0 t.left.length k0,.slice a1 t.right.length k1,.slice a2 t.rl.length k2,.slice a3 t.rr.length k3,.slice a4 t.salts.length k4] 39);have BH:=(Blk.new (W.alloc (.cells #[.int .i64 o.no,.int .i64 o.secret,.slice A o.chain.length c,.slice Au o.used.length cu] 25)) 33 hC (W.heap.size+1) (by simp)).alloc (.cells #[.slice a0 t.left.length k0,.slice a1 t.right.length k1,.slice a2 t.rl.length k2,.slice a3 t.rr.length k3,.slice a4 t.salts.length k4] 39);have BT:=Blk.new ((W.alloc (.cells #[.int .i64 o.no,.int .i64 o.secret,.slice A o.chain.length c,.slice Au o.used.length cu] 25)).alloc (.cells hC 33)) 39 #[.slice a0 t.left.length k0,.slice a1 t.right.length k1,.slice a2 t.rl.length k2,.slice a3 t.rr.length k3,.slice a4 t.salts.length k4] (W.heap.size+1+1) (by simp);go_enter func7,ntmps7
 go_upto_region 1 with fail;generalize ((W.alloc (.cells #[.int .i64 o.no,.int .i64 o.secret,.slice A o.chain.length c,.slice Au o.used.length cu] 25)).alloc (.cells hC 33)).alloc (.cells #[.slice a0 t.left.length k0,.slice a1 t.right.length k1,.slice a2 t.rl.length k2,.slice a3 t.rr.length k3,.slice a4 t.salts.length k4] 39)=w1 at *;have q0:=Vw w1 (hG.below hb);go_wp2_with fail;refine q0.mono ?_;rintro e w2 ⟨rfl,b2⟩;clear q0;replace BO:=BO.below b2 BO.lt;replace BH:=BH.below b2 BH.lt;replace BT:=BT.below b2 BT.lt;replace hb:=ah hb b2;clear b2 w1;go_upto_region 3 with fail;have c0:=BO.cell 0;have c1:=BO.cell 1;have c2':=BO.cell 2;have c3':=BO.cell 3;have d0:=BT.cell 0;have d1:=BT.cell 1;have d2:=BT.cell 2;have d3:=BT.cell 3;have d4:=BT.cell 4;have q1:=PX o A Au A2 c cu inn.length c2 vs ⟨a0,a1,a2,a3,a4,k0,k1,k2,k3,k4⟩ t w2 ((hA.below hb).more hb.size);rw [hTs] at q1;by_cases hf:Jd o inn.length t=true
 case neg =>
  rw [show Jd o inn.length t=false by simpa using hf] at q1;go_wp2_with fail;refine q1.mono ?_;rintro e w3 ⟨rfl,b3⟩;go_wp2_with fail;go_ret;exact ⟨rfl,ah hb b3⟩
 rw [hf] at q1;obtain ⟨f1,f2,f3⟩:=Qd hf;have hin80:inn.length≤80:=HY hf;replace hA:=hA.strong (fun x hx=>aaj (f2 x hx) (by omega));clear f2 hf;go_wp2_with fail;refine q1.mono ?_;rintro e w4 ⟨rfl,b4⟩;clear q1 c0 c1 c2' c3' d0 d1 d2 d3 d4;replace BO:=BO.below b4 BO.lt;replace BH:=BH.below b4 BH.lt;replace BT:=BT.below b4 BT.lt;replace hb:=ah hb b4;clear b4;have hY4:W.heap.size+1+1<w4.heap.size:=BT.lt;go_upto_region 5 with fail;have c0:=BO.cell 0;have c1:=BO.cell 1;have c2':=BO.cell 2;have c3':=BO.cell 3;have d0:=BT.cell 0;have d1:=BT.cell 1;have d2:=BT.cell 2;have d3:=BT.cell 3;have d4:=BT.cell 4;have LH:=bg BH underlying33 rfl (by rw [hcl.out];exact cO);have q7:=Ai o A Au A2 c cu c2 vs rest h inn ⟨a0,a1,a2,a3,a4,k0,k1,k2,k3,k4⟩ t w4 ((hA.below hb).more hb.size) (by omega) hcap hnilA ((hU.below hb).more hb.size) hok (by omega) hnilU ho ((hI0.below hb).more hb.size) (by omega) hio ((hT.below hb).more hb.size) (hG.below hb);rw [hTs,hhC.out] at q7;apply wp_region_lit
 iterate 6 go_step
 refine aP (by rfl) (by rfl) (by rfl) LH ?_;simp only [Act.put];go_wp2_with fail;refine q7.mono ?_;rintro e w6 hr;obtain ⟨b6,X1,J1,rfl,x4,x1,j49,j1,hno,hyes⟩:=hr.split;clear hr q7 c0 c1 c2' c3' d0 d1 d2 d3 d4 LH hno;obtain ⟨E,hE⟩:∃ E,Hid (dh o rest h inn t=E):=⟨_,aab rfl⟩
 rw [hE.out] at hyes ⊢;dsimp only
 (refine ‹∀ (a:Act) (w:World),wpList _ _ _ _ a w→_› _ _ ?_)
 iterate 18 go_step
 change wpList _ _ _ _ _ ((w6.alloc (.cells bK 25)).alloc (.cells bC.toArray 49));have BX:=(Blk.new w6 25 bK _ rfl).alloc (.cells bC.toArray 49);have BJ:=Blk.new (w6.alloc (.cells bK 25)) 49 bC.toArray (w6.heap.size+1) (by simp);have b67:=bAl (bAl (aj w6) (.cells bK 25)) (.cells bC.toArray 49);generalize (w6.alloc (.cells bK 25)).alloc (.cells bC.toArray 49)=w7 at *;refine aG (q := .pointer (some ⟨w6.heap.size,0,none⟩)) (v := .agg X1) (by rfl) (by rfl) (by rfl) (by rfl) (aQ BX (by rw [x4];exact iM) (by rw [x4];rfl) x1) ?_;simp only [Act.put];have BJ2:=BJ.farRowT BX (by decide) X1;refine aG (q := .pointer (some ⟨w6.heap.size+1,0,none⟩)) (v := .agg J1) (by rfl) (by rfl) (by rfl) (by rfl) (aQ BJ2 (by rw [j49];exact eG) (by rw [j49];exact dW) j1) ?_;simp only [Act.put];have BX3:=(BX.row X1).farRowT BJ2 (by decide) J1;have BJ3:=BJ2.row J1;have b68:=below_setRow (below_setRow b67 (aad _) X1) (Nat.le_succ _) J1;clear BX BJ BJ2 b67;generalize (w7.setRow w6.heap.size X1).setRow (w6.heap.size+1) J1=w8 at *;go_upto_region 6 with fail;have BX:=BX3;have BJ:=BJ3;clear BX3 BJ3 w7;have b8:=ah b6 b68;have hat:Hid (E=0→∀ w2,KeepsW w6 w2→Below w4.heap.size w4 w2→OfAt w2 w2.heap.size X1 (oK o rest h inn t)∧JwAt w2 w2.heap.size J1 (lh o rest h inn t)):=aab hyes;have hk:KeepsW w6 w8:=KeepsW.below b68;have h4j:w4.heap.size≤w6.heap.size:=b6.size;have bw:=b8;clear hyes b6 b68;replace BO:=BO.below b8 BO.lt;replace BH:=BH.below b8 BH.lt;replace BT:=BT.below b8 BT.lt;replace hb:=ah hb b8;clear b8 x4 x1;obtain ⟨jb,hjb⟩:∃ jb,w6.heap.size+1=jb:=⟨_,rfl⟩
 obtain ⟨xb,hxb⟩:∃ xb,w6.heap.size=xb:=⟨_,rfl⟩
 rw [hjb] at BJ ⊢;rw [hxb] at BX ⊢;replace h4j:w4.heap.size≤jb:=by omega
 clear hjb hxb;by_cases hE0:E=0
 case neg =>
  have hE1:(E != 0)=true:=by simpa using hE0
  clear hE0 hat;go_wp2_with fail;go_ret;exact ⟨rfl,hb⟩
 subst hE0;replace hat:=aab (hat.out rfl);have hw:Hid (dh o rest h inn t=0):=hE;clear hE;have hsec:=zo hw.out;have hxg:=CU hw.out hok;obtain ⟨xO,hxO⟩:∃ x,Hid (oK o rest h inn t=x):=⟨_,aab rfl⟩
 have hch:xO.chain=o.chain++[zh o rest h inn t]:=by rw [←hxO.out];rfl
 have hxn:xO.no=o.no∧xO.secret=o.secret:=by rw [←hxO.out];exact ⟨rfl,rfl⟩
 have hcl1:xO.chain.length=o.chain.length+1:=by rw [hch,aan];rfl
 rw [hxO.out] at hat hxg;obtain ⟨K,hK⟩:∃ K,Hid (pK o.secret=K):=⟨_,aab rfl⟩
 obtain ⟨⟨AX,cX,vX,AuX,cuX,hX,-⟩,-⟩:=hat.out w8 hk bw;rw [hcl1,hxn.1,hxn.2] at hX;go_upto_region 8 with fail;have c1:=BO.cell 1;have q8:=pM o.secret w8;rw [(Gi hsec).2,hK.out] at q8;go_wp2_with fail;refine q8.mono ?_;rintro e w9 ⟨rfl,b9⟩;clear q8 c1;replace BO:=BO.below b9 BO.lt;replace BH:=BH.below b9 BH.lt;replace BT:=BT.below b9 BT.lt;replace BX:=BX.below b9 BX.lt;replace BJ:=BJ.below b9 BJ.lt;replace hb:=ah hb b9;replace hk:=hk.trans (KeepsW.below b9);replace bw:=ah bw b9;clear b9;have c2':=BO.cell 2;go_upto_region 10 with fail;clear c2';have hX2:X1.size=4:=by rw [hX];rfl
 have hgd:=hxg;unfold Ofc.good at hgd;simp only [aal,decide_eq_true_eq] at hgd;have hchk:chainE xO.chain=0:=hgd.2.1.1;have hol:o.chain=xO.chain.take o.chain.length:=by rw [hch];simp
 have hn16:o.chain.length≤16:=f1
 have qs:Hid (∀ w',Below w9.heap.size w9 w'→Calls prog 32 #[.slice AX o.chain.length cX,.slice A o.chain.length c] w' (Ret (.bool true) w')):=aab (fun w' b=>by
  obtain ⟨⟨AX',cX',vX',AuX',cuX',hX',hL,hc',-⟩,-⟩:=hat.out w' (hk.trans (KeepsW.below b)) (ah bw b);rw [hX,hcl1,hxn.1,hxn.2] at hX';simp at hX';obtain ⟨⟨rfl,rfl⟩,-⟩:=hX';have hL2:=hL.take o.chain.length (by omega);rw [←hol] at hL2;exact YL AX A cX c o.chain _ vs w' hL2 ((hA.below (ah hb b)).more (ah hb b).size) (by omega))
 have qc:Hid (∀ w',Below w9.heap.size w9 w'→Calls prog 33 #[.slice AX (o.chain.length+1) cX] w' (Ret (.int .i64 0) w')):=aab (fun w' b=>by
  obtain ⟨⟨AX',cX',vX',AuX',cuX',hX',hL,hc',-⟩,-⟩:=hat.out w' (hk.trans (KeepsW.below b)) (ah bw b);rw [hX,hcl1,hxn.1,hxn.2] at hX';simp at hX';obtain ⟨⟨rfl,rfl⟩,-⟩:=hX';have h1:=IK AX cX xO.chain vX' w' hL (by omega) (by omega) (hG.below (ah hb b));rw [hchk,hcl1] at h1;exact h1)
 have qo:Hid (∀ w',Below w9.heap.size w9 w'→Calls prog 16 #[.agg X1] w' (Ret (.int .i64 0) w')):=aab (fun w' b=>by
  obtain ⟨⟨AX',cX',vX',AuX',cuX',hX',hL,hc',hn',hU',hok',hnu'⟩,-⟩:=hat.out w' (hk.trans (KeepsW.below b)) (ah bw b);have hul:xO.used.length≤1000000:=by have:=hgd.2.2.2;omega
  have h1:=sO xO AX' AuX' cX' cuX' vX' w' hL (by omega) hc' hU' hok' hul (hG.below (ah hb b));rw [←hX',show xO.err=0 from if_pos hxg] at h1;exact h1)
 have KS:Hid (∀ w',Below w9.heap.size w9 w'→((Instr.loadAt 25 (.pointer (some ⟨xb,0,none⟩))).run prog w' = .ok (.agg X1) w'∧w'.cell? ⟨xb,2,none⟩=some (.slice AX (o.chain.length+1) cX)∧w'.cell? ⟨W.heap.size,2,none⟩=some (.slice A o.chain.length c) ∧
   w'.cell? ⟨xb,0,none⟩=some (.int .i64 o.no)∧w'.cell? ⟨W.heap.size,0,none⟩=some (.int .i64 o.no)∧w'.cell? ⟨xb,1,none⟩=some (.int .i64 o.secret)∧w'.cell? ⟨W.heap.size,1,none⟩=some (.int .i64 o.secret))):=aab (fun w' b =>
  ⟨bg (BX.below b BX.lt) underlying25 rfl (by rw [hX2];exact iM),((BX.below b BX.lt).cell 2).trans (by rw [hX];rfl),(BO.below b BO.lt).cell 2,((BX.below b BX.lt).cell 0).trans (by rw [hX];rfl),(BO.below b BO.lt).cell 0,((BX.below b BX.lt).cell 1).trans (by rw [hX];rfl),(BO.below b BO.lt).cell 1⟩)
 have hwr:IntKind.i64.wrap ((o.chain.length:Int)+1)=(o.chain.length:Int)+1:=by rw [IntKind.wrap_i64];omega
 have hln:(((o.chain.length+1:Nat):Int) != (o.chain.length:Int)+1)=false:=by simp
 have i2:(0:Int)≤(o.chain.length:Int):=by omega
 have i3:(o.chain.length:Int)≤(cX:Int):=by
  obtain ⟨⟨AX',cX',vX',AuX',cuX',hX',hL,hc',-⟩,-⟩:=hat.out w9 hk bw;rw [hX,hcl1,hxn.1,hxn.2] at hX';simp at hX';obtain ⟨⟨rfl,rfl⟩,-⟩:=hX';omega
 replace hxg:=aab hxg;replace hch:=aab hch;replace hchk:=aab hchk;replace hol:=aab hol;replace hcl1:=aab hcl1;replace hxn:=aab hxn;replace hX:=aab hX;replace hsec:=aab hsec;clear hgd;refine fA (g:=0) KS [(0,1),(1,1),(2,1),(3,1),(4,2),(5,1),(6,1),(7,1),(8,1),(9,1),(10,1),(11,1),(12,2),(13,1),(14,1),(15,1),(16,2),(17,0),(18,1),(19,1),(20,1),(21,1),(22,2),(23,0),(24,1),(25,1),(26,1),(27,2),(28,0),(29,1),(30,1),(31,1),(32,1),(33,2),(34,1),(35,2),(36,1),(37,1),(38,1),(39,1),(40,2),(41,1),(42,2),(43,1),(44,1)] ?_;simp only [bf,aap,aar];refine ae ?_;refine ae ?_;refine ae ?_;refine ae ?_;refine az ?_;refine ae ?_;refine ae ?_;refine ae ?_;refine ae ?_;refine ae ?_;refine ae ?_;refine ae ?_;refine az ?_;refine ae ?_;refine ae ?_;refine ae ?_;refine az ?_;refine bW (fun K hK=>?_);go_simp;(first | (go_at_call 32;(with_reducible refine (qs.out _ (by with_reducible exact bDr (aj _))).mono ?_);rintro e w6 ⟨rfl,b6⟩;have B6:Below w9.heap.size w9 w6:=ah (bDr (aj _)) b6) | (go_at_call 33;(with_reducible refine (qc.out _ B6).mono ?_);rintro e w7 ⟨rfl,b7⟩;have B7:Below w9.heap.size w9 w7:=ah B6 b7) | (go_at_call 16;(with_reducible refine (qo.out _ B7).mono ?_);rintro e w10 ⟨rfl,b10⟩;have B8:Below w9.heap.size w9 w10:=ah B7 b10) | skip);refine aH hK KS ?_;clear hK K;refine ae ?_;refine ae ?_;refine ae ?_;refine ae ?_;refine az ?_;refine bW (fun K hK=>?_);go_simp;(first | (go_at_call 32;(with_reducible refine (qs.out _ (by with_reducible exact bDr (aj _))).mono ?_);rintro e w6 ⟨rfl,b6⟩;have B6:Below w9.heap.size w9 w6:=ah (bDr (aj _)) b6) | (go_at_call 33;(with_reducible refine (qc.out _ B6).mono ?_);rintro e w7 ⟨rfl,b7⟩;have B7:Below w9.heap.size w9 w7:=ah B6 b7) | (go_at_call 16;(with_reducible refine (qo.out _ B7).mono ?_);rintro e w10 ⟨rfl,b10⟩;have B8:Below w9.heap.size w9 w10:=ah B7 b10) | skip)
 refine aH hK KS ?_;clear hK K;refine ae ?_;refine ae ?_;refine ae ?_;refine az (v:=?vq1) (hv:=?hq1) ?_;case hq1=>(intro w hSw;(first | refine (af rfl rfl hSw).trans ?_ | refine (af rfl rfl hSw.1).trans ?_ | refine (af rfl rfl hSw.2.1).trans ?_ | refine (af rfl rfl hSw.2.2.1).trans ?_ | refine (af rfl rfl hSw.2).trans ?_ | refine (af rfl rfl hSw.2.2).trans ?_);with_reducible rfl)
 refine bW (fun K hK=>?_);go_simp;(first | (go_at_call 32;(with_reducible refine (qs.out _ (by with_reducible exact bDr (aj _))).mono ?_);rintro e w6 ⟨rfl,b6⟩;have B6:Below w9.heap.size w9 w6:=ah (bDr (aj _)) b6) | (go_at_call 33;(with_reducible refine (qc.out _ B6).mono ?_);rintro e w7 ⟨rfl,b7⟩;have B7:Below w9.heap.size w9 w7:=ah B6 b7) | (go_at_call 16;(with_reducible refine (qo.out _ B7).mono ?_);rintro e w10 ⟨rfl,b10⟩;have B8:Below w9.heap.size w9 w10:=ah B7 b10) | skip);refine aH hK KS ?_;clear hK K;refine ae ?_;refine ae ?_;refine ae ?_;refine ae ?_;refine az ?_;refine ae ?_;refine az ?_;refine ae ?_;refine ae ?_;refine ae ?_;refine ae ?_;refine az ?_;refine ae ?_;refine az ?_;refine ae ?_;refine ae ?_;refine jk ?_;refine NoPanic.normal ?_;clear KS qs qc qo hwr hln hX2;go_upto_region 12 with fail;replace BO:=BO.below B8 BO.lt;replace BH:=BH.below B8 BH.lt;replace BT:=BT.below B8 BT.lt;replace BX:=BX.below B8 BX.lt;replace BJ:=BJ.below B8 BJ.lt;replace hb:=ah hb B8;replace hk:=hk.trans (KeepsW.below B8);replace bw:=ah bw B8;clear B6 B7 B8 b6 b7 b10 w9;obtain ⟨l1,l2,l3,l4,l5,l6,l7⟩:=yI o rest h inn t;obtain ⟨A1,A2',e1,e2,ms,hJ1,-,-,-,hho⟩:=(hat.out w10 hk bw).2;obtain ⟨J,hJ⟩:∃ x,Hid (lh o rest h inn t=x):=⟨_,aab rfl⟩
 rw [hJ.out] at hat hJ1 hho l1 l3 l5;have hmix:=xm hw.out;have h64:inn.length≤64:=by have:=hmix.2.1;rw [dJ] at this;exact this
 have hJo:J.mix.out.all Ltr.good=true:=by rw [←hJ.out];obtain ⟨hk',_,hg',hf'⟩:=hmix;exact Trn.outs_good hf' hk' hg'
 have hJi:J.mix.inn=J.bare:=by rw [←hJ.out];rfl
 have hJr:J.hand.root=kN J.mix.out:=by rw [←hJ.out];rfl
 have hJm:J.hand.many=(inn.length:Int):=by
  rw [←hJ.out];show ((t.out rest (bu o.secret inn) (bu o.secret inn).length).length:Int)=_;rw [Trn.out_length,dJ]
 have hJs:J.hand.signed K=true:=by
  rw [←hJ.out,←hK.out];exact PM hsec.out (IG hw.out _ (by rw [Trn.out_length,dJ];exact h64))
 have hKi:inI K:=by rw [←hK.out,(Gi hsec.out).1];exact rW _ _
 have qh:Hid (∀ w',Below w10.heap.size w10 w'→Calls prog 34 #[.int .i64 K,.agg J.hand.cl.toArray] w' (Ret (.bool true) w')):=aab (fun w' b=>by
  have h1:=SG K J.hand hho hKi w' (hG.below (ah hb b));rw [hJs] at h1;exact h1)
 have hrd:∀ w',Below w10.heap.size w10 w'→Rd w' w'.heap.size 6 A1 J.bare.length (J.bare.flatMap Ltr.cl)∧Rd w' w'.heap.size 6 ms.a0 J.mix.inn.length (J.mix.inn.flatMap Ltr.cl)∧Rd w' w'.heap.size 6 ms.a2 J.mix.out.length (J.mix.out.flatMap Ltr.cl):=fun w' b=>by
  obtain ⟨B1,B2,d1,d2,us,hJb,r1,r2,hM,-⟩:=(hat.out w' (hk.trans (KeepsW.below b)) (ah bw b)).2;rw [hJ1] at hJb;obtain ⟨g1,g2,g3⟩:=YJ hJb;rw [g1,g2,g3];exact ⟨r1,hM.r0,hM.r2⟩
 have qr:Hid (∀ w',Below w10.heap.size w10 w'→Calls prog 25 #[.slice ms.a2 inn.length ms.c2] w' (Ret (.agg (ag J.hand.root).toArray) w')):=aab (fun w' b=>by
  have h1:=NE ms.a2 ms.c2 J.mix.out (fun x hx=>FX (aau.1 hJo x hx)) w' (hrd w' b).2.2 (by omega) (hG.below (ah hb b));rw [l5,←hJr] at h1;exact h1)
 have ql:Hid (∀ w',Below w10.heap.size w10 w'→Calls prog 35 #[.slice ms.a0 inn.length ms.c0,.slice A1 inn.length e1] w' (Ret (.bool true) w')):=aab (fun w' b=>by
  have h1:=YC ms.a0 A1 ms.c0 e1 J.bare w' (by have:=(hrd w' b).2.1;rw [hJi] at this;exact this) (hrd w' b).1 (by omega);rw [l1] at h1;exact h1)
 have hro:dL J.hand.root:=by rw [hJr];exact wO _
 have hqn:=fun w=>zY J.hand.root J.hand.root hro.1 hro.1 w;rw [decide_eq_true rfl] at hqn;have hJ49:J1.size=49:=by rw [hJ1];exact YD hho
 have hc:=Hd.cells hho;have hj:∀ j v,J.hand.cl[j]?=some v→J1[7+j]?=some v:=fun j v hv=>by rw [hJ1,←hv];exact FP _ _ _ _ _ _ _ _ _
 have KS:Hid (∀ w',Below w10.heap.size w10 w'→((Instr.loadAt 33 (.pointer (some ⟨jb,7,none⟩))).run prog w' = .ok (.agg J.hand.cl.toArray) w'∧(Instr.loadAt 29 (.pointer (some ⟨jb,14,none⟩))).run prog w' = .ok (.agg (ag J.hand.root).toArray) w' ∧
   w'.cell? ⟨jb,13,none⟩=some (.int .i64 (inn.length:Int))∧w'.cell? ⟨jb,4,none⟩=some (.slice ms.a2 inn.length ms.c2)∧w'.cell? ⟨jb,2,none⟩=some (.slice ms.a0 inn.length ms.c0)∧w'.cell? ⟨jb,0,none⟩=some (.slice A1 inn.length e1))):=aab (fun w' b=>by
  have B:=BJ.below b BJ.lt;refine ⟨YG hho B hJ1,fF (fun j u hu=>?_) hro.1,?_,?_,?_,?_⟩
  ·have hj32:j<32:=by have:=(aag.1 hu).1;rw [ai,hro.1] at this;exact this
   refine (B.cell (14+j)).trans ?_
   have:=hj (7+j) u (by rw [hc.2.2.2.2.2.2.2.1 j hj32];exact hu)
   rwa [←aay] at this
  ·exact (B.cell 13).trans (by rw [hj 6 _ hc.2.2.2.2.2.2.1,hJm])
  ·exact (B.cell 4).trans (by rw [hJ1,xG,l5])
  ·exact (B.cell 2).trans (by rw [hJ1,uu,l3])
  ·exact (B.cell 0).trans (by rw [hJ1,bi,l1]))
 replace hJm:=aab hJm;replace hJr:=aab hJr;replace hJi:=aab hJi;replace hJ1:=aab hJ1;replace hJo:=aab hJo;replace hJs:=aab hJs;replace hj:=aab hj;replace hrd:=aab hrd;replace hc:=aab hc;clear l1 l3 l5 l2 l4 l6 l7 hmix;generalize hHC:J.hand.cl.toArray=HC at *;generalize hRR:(ag J.hand.root).toArray=RR at *;replace hHC:=aab hHC;replace hRR:=aab hRR;refine fA (g:=0) KS [(0,1),(1,1),(2,2),(3,0),(4,1),(5,1),(6,1),(7,1),(8,2),(9,1),(10,1),(11,1),(12,1),(13,1),(14,1),(15,1),(16,2),(17,1),(18,1),(19,2),(20,0),(21,1),(22,1),(23,1),(24,1),(25,1),(26,2),(27,1),(28,2),(29,0),(30,1),(31,1)] ?_;simp only [bf,aap,aar];refine ae ?_;refine ae ?_;refine az (v:=?vq2) (hv:=?hq2) ?_;case hq2=>(intro w hSw;(first | refine (af rfl rfl hSw).trans ?_ | refine (af rfl rfl hSw.1).trans ?_ | refine (af rfl rfl hSw.2.1).trans ?_ | refine (af rfl rfl hSw.2.2.1).trans ?_ | refine (af rfl rfl hSw.2).trans ?_ | refine (af rfl rfl hSw.2.2).trans ?_);with_reducible rfl)
 refine bW (fun K hK=>?_);go_simp;(first | (go_at_call 34;(with_reducible refine (qh.out _ (by with_reducible exact bDr (aj _))).mono ?_);rintro e w6 ⟨rfl,b6⟩;have B6:Below w10.heap.size w10 w6:=ah (bDr (aj _)) b6) | (go_at_call 25;(with_reducible refine (qr.out _ B6).mono ?_);rintro e w7 ⟨rfl,b7⟩;have B7:Below w10.heap.size w10 w7:=ah B6 b7) | (go_at_call 35;(with_reducible refine (ql.out _ B7).mono ?_);rintro e w11 ⟨rfl,b11⟩;have B8:Below w10.heap.size w10 w11:=ah B7 b11) | skip);refine aH hK KS ?_;clear hK K;refine ae ?_;refine ae ?_;refine ae ?_;refine ae ?_;refine az ?_;refine ae ?_;refine ae ?_;refine ae ?_;refine ae ?_;refine ae ?_;refine ae ?_;refine ae ?_;refine az (v:=?vq3) (hv:=?hq3) ?_;case hq3=>(intro w hSw;(first | refine (af rfl rfl hSw).trans ?_ | refine (af rfl rfl hSw.1).trans ?_ | refine (af rfl rfl hSw.2.1).trans ?_ | refine (af rfl rfl hSw.2.2.1).trans ?_ | refine (af rfl rfl hSw.2).trans ?_ | refine (af rfl rfl hSw.2.2).trans ?_);with_reducible rfl)
 refine ae ?_;refine ae ?_;refine az ?_;refine bW (fun K hK=>?_);go_simp;(first | (go_at_call 34;(with_reducible refine (qh.out _ (by with_reducible exact bDr (aj _))).mono ?_);rintro e w6 ⟨rfl,b6⟩;have B6:Below w10.heap.size w10 w6:=ah (bDr (aj _)) b6) | (go_at_call 25;(with_reducible refine (qr.out _ B6).mono ?_);rintro e w7 ⟨rfl,b7⟩;have B7:Below w10.heap.size w10 w7:=ah B6 b7) | (go_at_call 35;(with_reducible refine (ql.out _ B7).mono ?_);rintro e w11 ⟨rfl,b11⟩;have B8:Below w10.heap.size w10 w11:=ah B7 b11) | skip);refine aH hK KS ?_;clear hK K;refine ae ?_;refine ae ?_;refine ae ?_;refine ae ?_;refine ae ?_;refine az ?_;refine ae ?_;refine az ?_;refine bW (fun K hK=>?_);go_simp;(first | (go_at_call 34;(with_reducible refine (qh.out _ (by with_reducible exact bDr (aj _))).mono ?_);rintro e w6 ⟨rfl,b6⟩;have B6:Below w10.heap.size w10 w6:=ah (bDr (aj _)) b6) | (go_at_call 25;(with_reducible refine (qr.out _ B6).mono ?_);rintro e w7 ⟨rfl,b7⟩;have B7:Below w10.heap.size w10 w7:=ah B6 b7) | (go_at_call 35;(with_reducible refine (ql.out _ B7).mono ?_);rintro e w11 ⟨rfl,b11⟩;have B8:Below w10.heap.size w10 w11:=ah B7 b11) | skip);refine aH hK KS ?_;clear hK K;refine ae ?_;refine ae ?_;refine jk ?_;refine NoPanic.normal ?_;clear qh qr ql hqn;go_upto_region 14 with fail;have bq:=B8;replace BO:=BO.below B8 BO.lt;replace BH:=BH.below B8 BH.lt;replace BT:=BT.below B8 BT.lt;replace BX:=BX.below B8 BX.lt;replace BJ:=BJ.below B8 BJ.lt;replace hb:=ah hb B8;replace hk:=hk.trans (KeepsW.below B8)
 replace bw:=ah bw B8;clear B6 B7 B8 b6 b7 b11;have LH:=bg BH underlying33 rfl (by rw [hcl.out];exact cO);apply wp_region_lit;refine aP (by rfl) (by rfl) (by rfl) LH ?_;simp only [Act.put]
 iterate 3 go_step
 refine aG (v := .agg hC) (by rfl) (by rfl) (by rfl) (by rfl) (bP (old:=dM.cl.toArray) (by rw [hcl.out];exact cO) (by rw [hcl.out];simpa using Hd.cl_length qg) hone.out) ?_;simp only [Act.put];have BW:=Blk.new w11 33 hC _ rfl;have bA:=bAl (aj w11) (.cells hC 33);generalize w11.alloc (.cells hC 33)=w12 at *;go_upto_region 15 with fail;clear LH
 have sigC:Hid (∀ w',Below w11.heap.size w11 w'→(Instr.loadAt 31 (.pointer (some ⟨jb,47,none⟩))).run prog w' = .ok (.agg #[.int .i64 J.hand.e,.int .i64 J.hand.s]) w'):=aab (fun w' b=>by
  have B:=BJ.below b BJ.lt;have h40:=hj.out 40 _ hc.out.2.2.2.2.2.2.2.2.2.1;have h41:=hj.out 41 _ hc.out.2.2.2.2.2.2.2.2.2.2
  exact run_loadAt_mid (P:=prog) w' jb 47 31 [.int .i64 J.hand.e,.int .i64 J.hand.s] _ (fun j v hv=>by
   match j,hv with
   | 0,hv=>rw [←hv];exact (B.cell 47).trans h40
   | 1,hv=>rw [←hv];exact (B.cell 48).trans h41
   | j+2,hv=>simp at hv) underlying31 rfl (by kernel_rfl))
 have KS2:Hid (∀ w',Below w11.heap.size w11 w'→(w'.cell? ⟨jb,13,none⟩=some (.int .i64 (inn.length:Int))∧(Instr.loadAt 29 (.pointer (some ⟨jb,14,none⟩))).run prog w' = .ok (.agg RR) w'∧(Instr.loadAt 31 (.pointer (some ⟨jb,47,none⟩))).run prog w' = .ok (.agg #[.int .i64 J.hand.e,.int .i64 J.hand.s]) w')):=aab (fun w' b =>
  ⟨(KS.out w' (ah bq b)).2.2.1,(KS.out w' (ah bq b)).2.1,sigC.out w' b⟩)
 have hRs:RR.size=32:=by rw [←hRR.out,aae,ai,hro.1]
 have hR1:∀ v∈RR.toList,v.oneCell'=true:=by rw [←hRR.out];intro v hv;exact aZ v (by simpa using hv)
 have hcs:=Hd.cells ho;have c6:w12.drew.cell? ⟨w11.heap.size,6,none⟩=some (.int .i64 h.many):=(BW.cell 6).trans (by rw [←hhC.out,aaG];exact hcs.2.2.2.2.2.2.1);have f6:w12.drew.frozen? ⟨w11.heap.size,6,none⟩=false:=BW.frozen 6;have BW1:Blk (w12.drew.setCell ⟨w11.heap.size,6,none⟩ (.int .i64 (inn.length:Int))) w11.heap.size 33 (hC.setIfInBounds 6 (.int .i64 (inn.length:Int))):=Blk.set_ (w:=w12.drew) BW 6 _;clear hcs;have S12:=pX (P:=prog) (ty:=29) (o:=7) (X:=RR) BW1 (by rw [hRs];exact aW) (by rw [Array.size_setIfInBounds,hcl.out,hRs];omega) hR1
 have hwant:(((hC.setIfInBounds 6 (.int .i64 (inn.length:Int))).toList.take 7++RR.toList++(hC.setIfInBounds 6 (.int .i64 (inn.length:Int))).toList.drop (7+RR.size)).toArray.toList.take 40++(#[.int .i64 J.hand.e,.int .i64 J.hand.s]:Array Value).toList++((hC.setIfInBounds 6 (.int .i64 (inn.length:Int))).toList.take 7++RR.toList++(hC.setIfInBounds 6 (.int .i64 (inn.length:Int))).toList.drop (7+RR.size)).toArray.toList.drop (40+(#[.int .i64 J.hand.e,.int .i64 J.hand.s]:Array Value).size)).toArray=HC:=by
  have e1:=YO ho (n:=(inn.length:Int)) ⟨by omega,by omega⟩ hro J.hand.e J.hand.s;rw [hhC.out,hRR.out] at e1;rw [e1,←hHC.out]
  have e2:({ h with many:=(inn.length:Int),root:=J.hand.root,e:=J.hand.e,s:=J.hand.s } : Hd)=J.hand:=by
   rw [←hJm.out,←hJ.out];rfl
  rw [e2]
 have BW2:=BW1.row ((hC.setIfInBounds 6 (.int .i64 (inn.length:Int))).toList.take 7++RR.toList++(hC.setIfInBounds 6 (.int .i64 (inn.length:Int))).toList.drop (7+RR.size)).toArray
 have hC1s:(((hC.setIfInBounds 6 (.int .i64 (inn.length:Int))).toList.take 7++RR.toList++(hC.setIfInBounds 6 (.int .i64 (inn.length:Int))).toList.drop (7+RR.size)).toArray).size=42:=by
  simp only [aae,aan,aav,aa1,Array.length_toList,Array.size_setIfInBounds,hcl.out,hRs];omega
 obtain ⟨C1,hC1⟩:∃ x,((hC.setIfInBounds 6 (.int .i64 (inn.length:Int))).toList.take 7++RR.toList++(hC.setIfInBounds 6 (.int .i64 (inn.length:Int))).toList.drop (7+RR.size)).toArray=x:=⟨_,rfl⟩
 rw [hC1] at hwant BW2 hC1s S12;clear hC1;have S14:=pX (P:=prog) (ty:=31) (o:=40) (X:=#[.int .i64 J.hand.e,.int .i64 J.hand.s]) BW2 (by kernel_rfl) (by rw [hC1s];exact aad 42) (by intro v hv;simp only [aaq,aaw,or_false] at hv;rcases hv with rfl | rfl <;> rfl);rw [hwant] at S14;have BW3:=BW2.row HC;have B10:=zQ7 (bDr bA) (p:=⟨w11.heap.size,6,none⟩) (aad _) (.int .i64 (inn.length:Int));have B11:Below w11.heap.size w11 (w12.setCell ⟨w11.heap.size,6,none⟩ (.int .i64 (inn.length:Int))).drew:=B10;have B12:=below_setRow B10 (aad _) C1;have bF:=below_setRow B12 (aad _) HC;refine fA (g:=0) KS2 [(0,1),(1,1),(2,2),(3,1),(4,1),(5,2),(6,1),(7,1),(8,2),(9,1),(10,0),(11,1),(12,0),(13,1),(14,0)] ?_;simp only [bf,aap,aar];refine ae ?_;refine ae ?_;refine az ?_;refine ae ?_;refine ae ?_;refine az (v:=?vq4) (hv:=?hq4) ?_;case hq4=>(intro w hSw;(first | refine (af rfl rfl hSw).trans ?_ | refine (af rfl rfl hSw.1).trans ?_ | refine (af rfl rfl hSw.2.1).trans ?_ | refine (af rfl rfl hSw.2.2.1).trans ?_ | refine (af rfl rfl hSw.2).trans ?_ | refine (af rfl rfl hSw.2.2).trans ?_);with_reducible rfl)
 refine ae ?_;refine ae ?_;refine az (v:=?vq5) (hv:=?hq5) ?_;case hq5=>(intro w hSw;(first | refine (af rfl rfl hSw).trans ?_ | refine (af rfl rfl hSw.1).trans ?_ | refine (af rfl rfl hSw.2.1).trans ?_ | refine (af rfl rfl hSw.2.2.1).trans ?_ | refine (af rfl rfl hSw.2).trans ?_ | refine (af rfl rfl hSw.2.2).trans ?_);with_reducible rfl)
 refine ae ?_;refine bW (fun K hK=>?_)
 first | ((refine bD (by rfl) (by rfl) (by rfl) (by rfl) S12 ?_)) | ((refine bD (by rfl) (by rfl) (by rfl) (by rfl) S14 ?_)) | (go_simp)
 refine aH hK KS2 ?_;clear hK K;refine ae ?_;refine bW (fun K hK=>?_)
 first | ((refine bD (by rfl) (by rfl) (by rfl) (by rfl) S12 ?_)) | ((refine bD (by rfl) (by rfl) (by rfl) (by rfl) S14 ?_)) | (go_simp)
 refine aH hK KS2 ?_;clear hK K;refine ae ?_;refine bW (fun K hK=>?_)
 first | ((refine bD (by rfl) (by rfl) (by rfl) (by rfl) S12 ?_)) | ((refine bD (by rfl) (by rfl) (by rfl) (by rfl) S14 ?_)) | (go_simp)
 refine aH hK KS2 ?_;clear hK K;refine jk ?_;refine NoPanic.normal ?_;clear KS2 sigC hwant hC1s BW1 BW2 c6 f6 BW hRs hR1 S12 S14 B10 B11 B12;generalize ((w12.drew.setCell ⟨w11.heap.size,6,none⟩ (.int .i64 (inn.length:Int))).setRow w11.heap.size C1).setRow w11.heap.size HC=w13 at *;replace BO:=BO.below bF BO.lt;replace BX:=BX.below bF BX.lt;replace BJ:=BJ.below bF BJ.lt;replace hb:=ah hb bF;replace hk:=hk.trans (KeepsW.below bF);replace bw:=ah bw bF;replace bq:=ah bq bF;clear bF bA BH BT;go_upto_region 16 with fail;obtain ⟨k,hkk⟩:∃ k,Hid (zh o rest h inn t=k):=⟨_,aab rfl⟩
 obtain ⟨N,hN⟩:∃ N,Hid (o.chain.length=N):=⟨_,aab rfl⟩
 have hJh:J.hand=IE o rest h inn t:=by rw [←hJ.out];rfl
 have hkd:k.data=J.hand.text:=by rw [hJh,←hkk.out];rfl
 have hkp:k.prev=fV o.chain:=by rw [←hkk.out];rfl
 have hck:xO.chain[o.chain.length]?=some k:=by rw [hch.out,hkk.out,aaz (aad _),Nat.sub_self];rfl
 obtain ⟨⟨AX',cX',vX',AuX',cuX',hX',hL,hc',-⟩,-⟩:=hat.out w13 hk bw;rw [hX.out,hcl1.out,hxn.out.1,hxn.out.2] at hX';simp at hX';obtain ⟨⟨rfl,rfl⟩,-⟩:=hX';obtain ⟨lb,lo,Ad,cd,rfl,hlb,hko,hrd2,hrg⟩:=hL.at_ hck;have hkl:=Lnk.cl_length (v := .slice Ad k.data.length cd) hko;obtain ⟨-,-,-,k34,kpd⟩:=Yf (v := .slice Ad k.data.length cd) hko;rw [hN.out] at hrg
 have D1:Hid (∀ w',Below w13.heap.size w13 w'→(Instr.loadAt 29 (.pointer (some ⟨lb,lo+N*35+2,none⟩))).run prog w' = .ok (.agg (ag k.prev).toArray) w'):=aab (fun w' b=>fF (fun j u hu=>(b.cell (p:=⟨lb,lo+N*35+2+j,none⟩) hlb).trans (by
  rw [aay];exact hrg _ _ (by rw [←aaG];exact kpd j u hu))) hko.2.2.1.1)
 have D2:Hid (∀ w',Below w13.heap.size w13 w'→w'.cell? ⟨lb,lo+N*35+34,none⟩=some (.slice Ad k.data.length cd)):=aab (fun w' b=>(b.cell (p:=⟨lb,lo+N*35+34,none⟩) hlb).trans (hrg _ _ (by rw [←aaG];exact k34)))
 have D3:Hid (∀ w',Below w13.heap.size w13 w'→(convert 83 9 (.slice Ad k.data.length cd)).run prog w' = .ok (.string (fQ J.hand.text)) w'):=aab (fun w' b=>by
  have h1:=zg (c:=cd) ((hrd2.below b).more b.size) rfl hko.2.2.2.1;rw [show fQ k.data=fQ J.hand.text by rw [hkd]] at h1;exact h1)
 have qt:Hid (∀ w',Calls prog 36 #[.agg HC] w' (kL 1 J.hand.text.length (ag J.hand.text) w')):=aab (fun w'=>by rw [←hHC.out];exact YA J.hand hho w')
 have qd:Hid (∀ w',Below w13.heap.size w13 w'→Calls prog 37 #[.slice A N c] w' (Ret (dig (fV o.chain)) w')):=aab (fun w' b=>by
  rw [←hN.out];exact Nv A c o.chain vs w' ((hA.below (ah hb b)).more (ah hb b).size) (by omega) (hG.below (ah hb b)))
 have ht:okB J.hand.text:=by rw [←hkd];exact hko.2.2.2.1
 have he:∀ w,(binOp .eql 33 (.agg HC) (.agg HC)).run prog w = .ok (.bool true) w:=fun w=>by rw [←hHC.out];exact YN hho w
 have hd:=fun w=>UH (fV o.chain) (fV o.chain) (Tv _).1 (Tv _).1 w;rw [decide_eq_true rfl] at hd;rw [show (ag k.prev).toArray=(ag (fV o.chain)).toArray by rw [hkp]] at D1;unfold dig at qd
 have KT:Hid (∀ w',Below w13.heap.size w13 w'→((Instr.loadAt 33 (.pointer (some ⟨jb,7,none⟩))).run prog w' = .ok (.agg HC) w'∧(Instr.loadAt 33 (.pointer (some ⟨w11.heap.size,0,none⟩))).run prog w' = .ok (.agg HC) w' ∧
   (Instr.loadAt 29 (.pointer (some ⟨lb,lo+N*35+2,none⟩))).run prog w' = .ok (.agg (ag (fV o.chain)).toArray) w'∧w'.cell? ⟨lb,lo+N*35+34,none⟩=some (.slice Ad k.data.length cd)∧(convert 83 9 (.slice Ad k.data.length cd)).run prog w' = .ok (.string (fQ J.hand.text)) w' ∧
   w'.cell? ⟨xb,2,none⟩=some (.slice (some ⟨lb,lo,none⟩) (N+1) cX)∧w'.cell? ⟨W.heap.size,2,none⟩=some (.slice A N c))):=aab (fun w' b =>
  ⟨(KS.out w' (ah bq b)).1,bg (BW3.below b BW3.lt) underlying33 rfl (by rw [←hHC.out];simpa using (cO.trans (congrArg some (Hd.cl_length hho).symm))),D1.out w' b,D2.out w' b,D3.out w' b,((BX.below b BX.lt).cell 2).trans (by rw [hX.out,hN.out];rfl),((BO.below b BO.lt).cell 2).trans (by rw [←hN.out];rfl)⟩)
 clear D1 D2 D3 hrg k34 kpd hrd2 hkl hL hc' KS BW3 BO BX BJ hko hkd hkp hJh hck hkk;rw [hN.out];have n1:(0:Int)≤(N:Int):=by omega
 have n2:(N:Int)<(N:Int)+1:=by omega
 have n3:((N:Int)).toNat=N:=rfl;generalize hH:(ag (fV o.chain)).toArray=HH at *;generalize hS:fQ J.hand.text=SS at *;replace hH:=aab hH;replace hS:=aab hS;refine fA (g:=0) KT [(0,1),(1,2),(2,2),(3,1),(4,1),(5,1),(6,2),(7,1),(8,1),(9,1),(10,2),(11,2),(12,1),(13,2),(14,0),(15,0),(16,1),(17,1),(18,1),(19,1),(20,2),(21,1),(22,1),(23,1),(24,2),(25,1),(26,2),(27,0),(28,1),(29,1),(30,0)] ?_;simp only [bf,aap,aar];refine ae ?_;refine az (v:=?vq6) (hv:=?hq6) ?_;case hq6=>(intro w hSw;(first | refine (af rfl rfl hSw).trans ?_ | refine (af rfl rfl hSw.1).trans ?_ | refine (af rfl rfl hSw.2.1).trans ?_ | refine (af rfl rfl hSw.2.2.1).trans ?_ | refine (af rfl rfl hSw.2).trans ?_ | refine (af rfl rfl hSw.2.2).trans ?_);with_reducible rfl)
 refine az (v:=?vq7) (hv:=?hq7) ?_;case hq7=>(intro w hSw;(first | refine (af rfl rfl hSw).trans ?_ | refine (af rfl rfl hSw.1).trans ?_ | refine (af rfl rfl hSw.2.1).trans ?_ | refine (af rfl rfl hSw.2.2.1).trans ?_ | refine (af rfl rfl hSw.2).trans ?_ | refine (af rfl rfl hSw.2.2).trans ?_);with_reducible rfl)
 refine ae ?_;refine ae ?_;refine ae ?_;refine az ?_;refine ae ?_;refine ae ?_;refine ae ?_;refine az ?_;refine az ?_;refine ae ?_;refine az (v:=?vq8) (hv:=?hq8) ?_;case hq8=>(intro w hSw;(first | refine (af rfl rfl hSw).trans ?_ | refine (af rfl rfl hSw.1).trans ?_ | refine (af rfl rfl hSw.2.1).trans ?_ | refine (af rfl rfl hSw.2.2.1).trans ?_ | refine (af rfl rfl hSw.2).trans ?_ | refine (af rfl rfl hSw.2.2).trans ?_);with_reducible rfl)
 refine bW (fun K hK=>?_);go_simp;(first | (go_at_call 36;(with_reducible refine (qt.out _).mono ?_);rintro e w6 ⟨v6,rfl,b6,A6,c6,rfl,R6,-⟩;have B6:Below w13.heap.size w13 w6:=ah (bDr (aj _)) b6;have cv:=zg (c:=c6) R6 rfl ht;rw [hS.out] at cv) | (go_at_call 37;(with_reducible refine (qd.out _ B6).mono ?_);rintro e w7 ⟨rfl,b7⟩;have B7:Below w13.heap.size w13 w7:=ah B6 b7) | skip);refine aH hK KT ?_;clear hK K;refine bW (fun K hK=>?_);go_simp;(first | (go_at_call 36;(with_reducible refine (qt.out _).mono ?_);rintro e w6 ⟨v6,rfl,b6,A6,c6,rfl,R6,-⟩;have B6:Below w13.heap.size w13 w6:=ah (bDr (aj _)) b6;have cv:=zg (c:=c6) R6 rfl ht;rw [hS.out] at cv) | (go_at_call 37;(with_reducible refine (qd.out _ B6).mono ?_);rintro e w7 ⟨rfl,b7⟩;have B7:Below w13.heap.size w13 w7:=ah B6 b7) | skip);refine aH hK KT ?_;clear hK K;refine ae ?_;refine ae ?_;refine ae ?_;refine ae ?_;refine az ?_;refine ae ?_;refine ae ?_;refine ae ?_;refine az (v:=?vq9) (hv:=?hq9) ?_;case hq9=>(intro w hSw;(first | refine (af rfl rfl hSw).trans ?_ | refine (af rfl rfl hSw.1).trans ?_ | refine (af rfl rfl hSw.2.1).trans ?_ | refine (af rfl rfl hSw.2.2.1).trans ?_ | refine (af rfl rfl hSw.2).trans ?_ | refine (af rfl rfl hSw.2.2).trans ?_);with_reducible rfl)
 refine ae ?_;refine az ?_;refine bW (fun K hK=>?_);go_simp;(first | (go_at_call 36;(with_reducible refine (qt.out _).mono ?_);rintro e w6 ⟨v6,rfl,b6,A6,c6,rfl,R6,-⟩;have B6:Below w13.heap.size w13 w6:=ah (bDr (aj _)) b6;have cv:=zg (c:=c6) R6 rfl ht;rw [hS.out] at cv) | (go_at_call 37;(with_reducible refine (qd.out _ B6).mono ?_);rintro e w7 ⟨rfl,b7⟩;have B7:Below w13.heap.size w13 w7:=ah B6 b7) | skip);refine aH hK KT ?_;clear hK K;refine ae ?_;refine ae ?_;refine bW (fun K hK=>?_);go_simp;(first | (go_at_call 36;(with_reducible refine (qt.out _).mono ?_);rintro e w6 ⟨v6,rfl,b6,A6,c6,rfl,R6,-⟩;have B6:Below w13.heap.size w13 w6:=ah (bDr (aj _)) b6;have cv:=zg (c:=c6) R6 rfl ht;rw [hS.out] at cv) | (go_at_call 37;(with_reducible refine (qd.out _ B6).mono ?_);rintro e w7 ⟨rfl,b7⟩;have B7:Below w13.heap.size w13 w7:=ah B6 b7) | skip);refine aH hK KT ?_;clear hK K;refine jk ?_;refine NoPanic.normal ?_
 trace_state
 go_wp2_with fail;go_ret;exact ⟨rfl,ah hb B7⟩
end
end Go.Proofs.YthbibbkbaphpkaaGreatDoor

/- handover: text; walked. -/
import Derived.Test.YthbibbkbaphpkaaGreatDoorMar
import Derived.Sort.CutIn
set_option maxHeartbeats 16000000
set_option maxRecDepth 1000000
namespace Go.Proofs.YthbibbkbaphpkaaGreatDoor
open _root_.Go.Proofs.Tryz
section
open Go.RowKit
inductive Tx where
 | int (n:Int)
 | run (a b c:Int)
 | ciph (a b:Int)
 | dig (d:List Nat)
def Tx.val:Tx→Value
 | .int n => .iface 3 (.int .i64 n)
 | .run a b c => .iface 27 (.agg #[.int .i64 a,.int .i64 b,.int .i64 c])
 | .ciph a b => .iface 61 (.agg #[.int .i64 a,.int .i64 b])
 | .dig d => .iface 29 (.agg (ag d).toArray)
def Tx.its:Tx→List It
 | .int n=>[.int n]
 | .run a b c=>[.int a,.int b,.int c]
 | .ciph a b=>[.int a,.int b]
 | .dig d=>[.text (dgS d)]
def Tx.ok:Tx→Prop
 | .int n=>inI n
 | .run a b c=>inI a∧inI b∧inI c
 | .ciph a b=>inI a∧inI b
 | .dig d=>d.length=32∧okB d
theorem Tx.its_ok {x:Tx} (h:x.ok):∀ y∈x.its,y.ok:=by
 cases x with
 | int n=>intro y hy;simp [Tx.its] at hy;subst hy;exact h
 | run a b c=>intro y hy;simp [Tx.its] at hy;rcases hy with rfl | rfl | rfl;exact h.1;exact h.2.1;exact h.2.2
 | ciph a b=>intro y hy;simp [Tx.its] at hy;rcases hy with rfl | rfl;exact h.1;exact h.2
 | dig d=>intro y hy;simp [Tx.its] at hy;subst hy;exact Nd.it_ok (x := .dig d) h
theorem Tx.len3 (x:Tx):x.its.length≤3:=by cases x <;> simp [Tx.its]
theorem FN:∀ l:List Tx,(l.flatMap Tx.its).length≤3*l.length
 | []=>by simp
 | x::l=>by
  have:=FN l
  have:=Tx.len3 x
  simp only [aaF,aan,aas];omega
theorem Sr (l:List Tx) (k:Nat):((l.take k).flatMap Tx.its).length≤3*k:=by
 have h1:=FN (l.take k);have h2:(l.take k).length≤k:=by rw [aav];omega
 omega
theorem Su {l:List Tx} {k:Nat} {x:Tx} (h:l[k]?=some x):(l.take (k+1)).flatMap Tx.its=(l.take k).flatMap Tx.its++x.its:=by
 obtain ⟨hk,rfl⟩:=aag.1 h;rw [aaB hk,aaP];simp
theorem PD (cs:Array Value) (w:World):(Instr.typeAssert (.iface 27 (.agg cs)) 20 3 true).run prog w = .ok (.tuple #[.int .i64 0,.bool false]) w:=by kernel_rfl
theorem PE (cs:Array Value) (w:World):(Instr.typeAssert (.iface 61 (.agg cs)) 20 3 true).run prog w = .ok (.tuple #[.int .i64 0,.bool false]) w:=by kernel_rfl
theorem PG (cs:Array Value) (w:World):(Instr.typeAssert (.iface 27 (.agg cs)) 20 27 true).run prog w = .ok (.tuple #[.agg cs,.bool true]) w:=by kernel_rfl
theorem PH (cs:Array Value) (w:World):(Instr.typeAssert (.iface 61 (.agg cs)) 20 27 true).run prog w = .ok (.tuple #[.agg #[.int .i64 0,.int .i64 0,.int .i64 0],.bool false]) w:=by kernel_rfl
theorem PI (cs:Array Value) (w:World):(Instr.typeAssert (.iface 29 (.agg cs)) 20 27 true).run prog w = .ok (.tuple #[.agg #[.int .i64 0,.int .i64 0,.int .i64 0],.bool false]) w:=by kernel_rfl
theorem PK (cs:Array Value) (w:World):(Instr.typeAssert (.iface 61 (.agg cs)) 20 61 true).run prog w = .ok (.tuple #[.agg cs,.bool true]) w:=by kernel_rfl
theorem PL (cs:Array Value) (w:World):(Instr.typeAssert (.iface 29 (.agg cs)) 20 61 true).run prog w = .ok (.tuple #[.agg #[.int .i64 0,.int .i64 0],.bool false]) w:=by kernel_rfl
theorem ND (A:Option Addr) (n c:Nat) (l:List Tx) (W:World) (hA:Rd W W.heap.size 1 A n (l.map Tx.val)) (hok:∀ x∈l,x.ok) (hn:n≤20) :
  Calls prog 173 #[.slice A n c] W (RJ 5 1 (bZ (l.flatMap Tx.its)).length (ag (bZ (l.flatMap Tx.its))) W):=by
 obtain rfl:l.length=n:=by have:=hA.1;rw [aaQ,aaA] at this;exact this
 go_enter func173,ntmps173;go_wp2_with fail;have BV:=Blk.new W 169 #[.int .i64 3,.int .i64 0,.string ⟨#[]⟩,.slice none 0 0] _ rfl;have hb:=bAl (aj W) (.cells #[.int .i64 3,.int .i64 0,.string ⟨#[]⟩,.slice none 0 0] 169);generalize W.alloc (.cells #[.int .i64 3,.int .i64 0,.string ⟨#[]⟩,.slice none 0 0] 169)=w1 at *;go_loopw [17] (fun i wr=>∃ (k:Nat) (v:Value) (m:Nat),k≤l.length∧i = .int .i64 k∧m=((l.take k).flatMap Tx.its).length∧Below W.heap.size W wr∧Blk wr W.heap.size 169 #[.int .i64 3,.int .i64 0,.string ⟨#[]⟩,v]∧wr.ownsRow (W.heap.size+1) 169 4 v m (((l.take k).flatMap Tx.its).flatMap It.cells)) (fun i _=>l.length - (intOf i).toNat)
 case atStart=>exact ⟨0,_,0,aao _,rfl,rfl,hb,BV,World.ownsRow_nil _ _ _ _⟩
 case round =>
  clear hb BV;obtain ⟨k,v,m,hk,rfl,hm,hb,BV,hown⟩:=hrel;by_cases hlt:k<l.length
  ·obtain ⟨x,hx⟩:∃ x,Hid (l[k]?=some x):=⟨_,aab (aac hlt)⟩
   obtain ⟨b,off,rfl,hbb,hc⟩:=(hA.below hb).2 (by omega);have d0:wr.cell? ⟨b,off+k,none⟩=some x.val:=hc k _ (by rw [aaD,hx.out];rfl);clear hc;have hsn:=aab (Su hx.out);have hm60:=Sr l k;rw [←hm] at hm60;replace hm:=aab hm;have hbs:W.heap.size+1≤wr.heap.size:=BV.lt;have hxok:=hok x (aam hx.out);generalize hX:((l.take k).flatMap Tx.its).flatMap It.cells=X at *;replace hX:=aab hX;cases x with
   | int a =>
    have ta:=assert_int a;change wr.cell? ⟨b,off+k,none⟩=some (.iface 3 (.int .i64 a)) at d0;have q:=KE wr.heap.size 1 [a] (wr.alloc (.cells #[.int .i64 a] 3)) W.heap.size m v X (Blk.new wr _ _ _ rfl) (by simp) (by omega) (BV.alloc _) (hown.alloc _);simp only [aas,List.length_nil,aax] at q;go_wp2_with fail;refine q.mono ?_;rintro e w5 ⟨rfl,b5,v5,BV5,hown5⟩;clear q d0 ta;go_wp2_with fail;exact ⟨⟨k+1,v5,m+1,by omega,by go_num,by rw [hsn.out,aan,←hm.out];rfl,(bAl hb _).trans b5,BV5,by rw [hsn.out,aaP,hX.out];exact hown5⟩,by simp [intOf];omega⟩
   | run a1 a2 a3 =>
    have ta:=PD #[.int .i64 a1,.int .i64 a2,.int .i64 a3];have tb:=PG #[.int .i64 a1,.int .i64 a2,.int .i64 a3];change wr.cell? ⟨b,off+k,none⟩=some (.iface 27 (.agg #[.int .i64 a1,.int .i64 a2,.int .i64 a3])) at d0;go_upto_region 12 with fail;have BR:=Blk.new wr 27 #[.int .i64 a1,.int .i64 a2,.int .i64 a3] _ rfl;have BV1:=BV.alloc (.cells #[.int .i64 a1,.int .i64 a2,.int .i64 a3] 27);have hown1:=hown.alloc (.cells #[.int .i64 a1,.int .i64 a2,.int .i64 a3] 27);have hb1:=bAl hb (.cells #[.int .i64 a1,.int .i64 a2,.int .i64 a3] 27);clear ta tb d0 BV hown;generalize wr.alloc (.cells #[.int .i64 a1,.int .i64 a2,.int .i64 a3] 27)=w2 at *;generalize wr.heap.size=g7 at *;obtain ⟨r0,r1,r2⟩:=three BR;have q:=KE w2.heap.size 3 [a1,a2,a3] (w2.alloc (.cells #[.int .i64 a1,.int .i64 a2,.int .i64 a3] 3)) W.heap.size m v X (Blk.new w2 _ _ _ rfl) (by simp) (by omega) (BV1.alloc _) (hown1.alloc _);simp only [aas,List.length_nil,aax,Nat.reduceAdd] at q;go_wp2_with fail;refine q.mono ?_;rintro e w5 ⟨rfl,b5,v5,BV5,hown5⟩;clear q r0 r1 r2;go_wp2_with fail;exact ⟨⟨k+1,v5,m+3,by omega,by go_num,by rw [hsn.out,aan,←hm.out];rfl,(bAl hb1 _).trans b5,BV5,by rw [hsn.out,aaP,hX.out];exact hown5⟩,by simp [intOf];omega⟩
   | ciph a1 a2 =>
    have ta:=PE #[.int .i64 a1,.int .i64 a2];have tb:=PH #[.int .i64 a1,.int .i64 a2];have tc:=PK #[.int .i64 a1,.int .i64 a2];change wr.cell? ⟨b,off+k,none⟩=some (.iface 61 (.agg #[.int .i64 a1,.int .i64 a2])) at d0;go_upto_region 15 with fail;have BR:=Blk.new wr 61 #[.int .i64 a1,.int .i64 a2] _ rfl;have BV1:=BV.alloc (.cells #[.int .i64 a1,.int .i64 a2] 61);have hown1:=hown.alloc (.cells #[.int .i64 a1,.int .i64 a2] 61);have hb1:=bAl hb (.cells #[.int .i64 a1,.int .i64 a2] 61);clear ta tb tc d0 BV hown;generalize wr.alloc (.cells #[.int .i64 a1,.int .i64 a2] 61)=w2 at *;generalize wr.heap.size=g7 at *;have r0:w2.cell? ⟨g7,0,none⟩=some (.int .i64 a1):=BR.cell 0;have r1:w2.cell? ⟨g7,1,none⟩=some (.int .i64 a2):=BR.cell 1;have q:=KE w2.heap.size 2 [a1,a2] (w2.alloc (.cells #[.int .i64 a1,.int .i64 a2] 3)) W.heap.size m v X (Blk.new w2 _ _ _ rfl) (by simp) (by omega) (BV1.alloc _) (hown1.alloc _);simp only [aas,List.length_nil,aax,Nat.reduceAdd] at q;go_wp2_with fail;refine q.mono ?_;rintro e w5 ⟨rfl,b5,v5,BV5,hown5⟩;clear q r0 r1;go_wp2_with fail;exact ⟨⟨k+1,v5,m+2,by omega,by go_num,by rw [hsn.out,aan,←hm.out];rfl,(bAl hb1 _).trans b5,BV5,by rw [hsn.out,aaP,hX.out];exact hown5⟩,by simp [intOf];omega⟩
   | dig d =>
    have ta:=uz (ag d).toArray;have tb:=PI (ag d).toArray;have tc:=PL (ag d).toArray;have td:=Bc (ag d).toArray;change wr.cell? ⟨b,off+k,none⟩=some (.iface 29 (.agg (ag d).toArray)) at d0;obtain ⟨hd1,hd2⟩:=hxok;have st1:=ny d hd1;have hbl:(ag d).length=32:=(by rw [ai,hd1]);obtain ⟨A2,c2,hv,_⟩:=Sl.of_own hown;subst hv;have h63:m+1≤maxLen:=(by unfold maxLen;omega);have hby:(m+1)*56≤140737488355328:=(by omega);have hXl:X.length=m*4:=hown.1;go_upto_region 18 with fail;have BD:=Blk.new wr 29 (ag d).toArray _ rfl;have BV1:=BV.alloc (.cells (ag d).toArray 29);have hown1:=hown.alloc (.cells (ag d).toArray 29);have hb1:=bAl hb (.cells (ag d).toArray 29);have hs1:W.heap.size+1≤(wr.alloc (.cells (ag d).toArray 29)).heap.size:=(by simp;omega);generalize wr.alloc (.cells (ag d).toArray 29)=w2 at *;generalize wr.heap.size=g7 at *;have KS:Hid (∀ w',Below w2.heap.size w2 w'→_):=aab (fun w' h=>And.intro (kV (BV1.below h BV1.lt)) (yY (BD.below h BD.lt) hd1 hd2));clear d0 ta tb tc td st1 hbl BV hown hb BD;have hownD:(w2.alloc (.cells #[.int .i64 0,.int .i64 0,.string ⟨#[]⟩,.slice none 0 0] 169)).drew.ownsRow (W.heap.size+1) 169 4 (.slice A2 m c2) m X:=aC hown1 (bDr (bAl (aj w2) _));have BZ:Blk (w2.alloc (.cells #[.int .i64 0,.int .i64 0,.string ⟨#[]⟩,.slice none 0 0] 169)).drew w2.heap.size 169 zeroV.toArray:=Blk.dw (Blk.new w2 _ _ _ rfl);have hsD:W.heap.size+1≤(w2.alloc (.cells #[.int .i64 0,.int .i64 0,.string ⟨#[]⟩,.slice none 0 0] 169)).drew.heap.size:=by show W.heap.size+1≤(w2.alloc _).heap.size;simp;omega
    have BVD:Blk (w2.alloc (.cells #[.int .i64 0,.int .i64 0,.string ⟨#[]⟩,.slice none 0 0] 169)).drew W.heap.size 169 #[.int .i64 3,.int .i64 0,.string ⟨#[]⟩,.slice A2 m c2]:=Blk.dw (BV1.alloc _);have hbD:Below W.heap.size W (w2.alloc (.cells #[.int .i64 0,.int .i64 0,.string ⟨#[]⟩,.slice none 0 0] 169)).drew:=bDr (bAl hb1 _);have hone:∀ u∈zeroV,u.oneCell'=true:=by intro u hu;simp [zeroV] at hu;rcases hu with rfl | rfl | rfl | rfl <;> rfl
    have hlt1:(m:Int)<(m:Int)+1:=(by omega);refine sK (f:=7) KS [(0,1),(1,2),(2,1),(3,2),(4,1),(5,1),(6,0),(7,3),(8,1),(10,1),(9,4),(11,4)] ?_;simp only [bf,aap,aar];refine fJ ?_;refine vk ?_;refine fJ ?_;refine vk ?_;refine fJ ?_;refine fJ ?_;refine sN (fun K hK=>?_)
    first | (refine iW (by rfl) (.tmp 55) (.tmp 60) 167 (by rfl) (W.heap.size+1) 169 (.agg #[.int .i64 0,.int .i64 0,.string ⟨#[]⟩,.slice none 0 0]) 4 56 underlying167 gB rfl (by omega) (.slice A2 m c2) m X (by rfl) hownD w2.heap.size 169 1 1 zeroV (by rfl) BZ rfl (by omega) hone h63 hby hsD ?_;intro v' w' hown4 hg4;obtain ⟨g',cap',rfl⟩:=ownsRow_succ hown4) | (go_simp)
    refine aH hK KS ?_;clear hK K;refine zk (fun K hK=>?_)
    first | (refine iW (by rfl) (.tmp 55) (.tmp 60) 167 (by rfl) (W.heap.size+1) 169 (.agg #[.int .i64 0,.int .i64 0,.string ⟨#[]⟩,.slice none 0 0]) 4 56 underlying167 gB rfl (by omega) (.slice A2 m c2) m X (by rfl) hownD w2.heap.size 169 1 1 zeroV (by rfl) BZ rfl (by omega) hone h63 hby hsD ?_;intro v' w' hown4 hg4;obtain ⟨g',cap',rfl⟩:=ownsRow_succ hown4) | (go_simp)
    refine NC hK ?_;clear hK K;refine fJ ?_;refine fJ ?_;refine xg ?_ ?_ <;> simp only [aat,aak,aaN,aaJ]
    all_goals
     have b4:=hg4.below hownD hsD;have BV4:=BVD.below b4 (by omega);have hb4:=hbD.trans (b4.mono (by omega));have c4:=kV BV4;have z4:=BV4.frozen 3;have hXZ:∀ j,(X++zeroV)[m*4+j]?=zeroV[j]?:=fun j=>(by rw [aaz (by omega),hXl];congr 1;omega);have y0:w'.cell? ⟨g',m*4,none⟩=some (.int .i64 0):=jH hown4 (hXZ 0);have y1:w'.cell? ⟨g',m*4+1,none⟩=some (.int .i64 0):=jH hown4 (hXZ 1);have y2:w'.cell? ⟨g',m*4+2,none⟩=some (.string ⟨#[]⟩):=jH hown4 (hXZ 2);have y3:w'.cell? ⟨g',m*4+3,none⟩=some (.slice none 0 0):=jH hown4 (hXZ 3);have f0:=jI hown4 (m*4);have f1:=jI hown4 (m*4+1);have f2:=jI hown4 (m*4+2);have f3:=jI hown4 (m*4+3);have hgb:W.heap.size≠g':=(by have:=(OwnAt.parts hown4).2.1;omega);clear KS hownD BZ hsD BVD hbD hXZ hown1 BV1 hb1;go_wp2_with fail;have hgb2:W.heap.size≤g':=(by have:=(OwnAt.parts hown4).2.1;omega);have hfl:=VP hXl (.int .i64 2) (.int .i64 0) (.string (dgS d)) (.slice none 0 0);clear c4 z4 y0 y1 y2 y3 f0 f1 f2 f3 hone;refine NoPanic.normal ?_;go_wp2_with fail
    ·refine ⟨⟨k+1,.slice (some ⟨g',0,none⟩) (m+1) cap',m+1,by omega,by go_num,by rw [hsn.out,aan,←hm.out];rfl,((((hb4.setCell (p:=⟨g',m*4,none⟩) hgb2 _).setCell (p:=⟨g',m*4+1,none⟩) hgb2 _).setCell (p:=⟨g',m*4+2,none⟩) hgb2 _).setCell (p:=⟨g',m*4+3,none⟩) hgb2 _).setCell (p:=⟨W.heap.size,3,none⟩) (aad _) _,
      ((((BV4.far (p:=⟨g',m*4,none⟩) hgb _).far (p:=⟨g',m*4+1,none⟩) hgb _).far (p:=⟨g',m*4+2,none⟩) hgb _).far (p:=⟨g',m*4+3,none⟩) hgb _).set_ 3 _,?_⟩,by simp [intOf];omega⟩
     have:=gX (iG (iG (iG (iG hown4 (m*4) (.int .i64 2)) (m*4+1) (.int .i64 0)) (m*4+2) (.string (dgS d))) (m*4+3) (.slice none 0 0)) (p:=⟨W.heap.size,3,none⟩) (by show W.heap.size<W.heap.size+1;omega) (.slice (some ⟨g',0,none⟩) (m+1) cap')
     rw [hfl] at this;rw [hsn.out,aaP,hX.out];exact this
    ·refine ⟨⟨k+1,.slice (some ⟨g',0,none⟩) (m+1) cap',m+1,by omega,by go_num,by rw [hsn.out,aan,←hm.out];rfl,((((hb4.setCell (p:=⟨W.heap.size,3,none⟩) (aad _) _).setCell (p:=⟨g',m*4,none⟩) hgb2 _).setCell (p:=⟨g',m*4+1,none⟩) hgb2 _).setCell (p:=⟨g',m*4+2,none⟩) hgb2 _).setCell (p:=⟨g',m*4+3,none⟩) hgb2 _,
      ((((BV4.set_ 3 _).far (p:=⟨g',m*4,none⟩) hgb _).far (p:=⟨g',m*4+1,none⟩) hgb _).far (p:=⟨g',m*4+2,none⟩) hgb _).far (p:=⟨g',m*4+3,none⟩) hgb _,?_⟩,by simp [intOf];omega⟩
     have:=iG (iG (iG (iG (gX hown4 (p:=⟨W.heap.size,3,none⟩) (by show W.heap.size<W.heap.size+1;omega) (.slice (some ⟨g',0,none⟩) (m+1) cap')) (m*4) (.int .i64 2)) (m*4+1) (.int .i64 0)) (m*4+2) (.string (dgS d))) (m*4+3) (.slice none 0 0)
     rw [hfl] at this;rw [hsn.out,aaP,hX.out];exact this
  ·have hkn:k=l.length:=by omega
   rw [hkn,abk] at hown hm;clear hkn;obtain ⟨A2,c2,hv,hR,_⟩:=Sl.of_own hown;subst hv;have e0:wr.cell? ⟨W.heap.size,0,none⟩=some (.int .i64 3):=BV.cell 0;have e1:wr.cell? ⟨W.heap.size,1,none⟩=some (.int .i64 0):=BV.cell 1;have e2:wr.cell? ⟨W.heap.size,2,none⟩=some (.string ⟨#[]⟩):=BV.cell 2;have e3:wr.cell? ⟨W.heap.size,3,none⟩=some (.slice A2 m c2):=BV.cell 3
   have hml:m≤60:=by
    have:=FN l
    rw [hm];omega
   have q:=FH A2 m c2 (l.flatMap Tx.its) wr hR (by
    intro x hx;obtain ⟨y,hy,hx⟩:=List.mem_flatMap.1 hx;exact Tx.its_ok (hok y hy) x hx) (by omega)
   unfold gJ at q;replace hm:=aab hm;generalize bZ (l.flatMap Tx.its)=E at *;go_wp2_with fail
   with_reducible refine q.mono ?_
   rintro e w5 ⟨v,rfl,b5,hv⟩;have hb5:=ah hb b5;have hv2:=own_base hv hb.size;clear q e0 e1 e2 e3;go_wp2_with fail;go_ret;exact ⟨_,rfl,hb5,hv2⟩
def Sv {α:Type} (n:Nat) (P:Program) (g:Nat) (lb:Array Value) (encs:α→Array Value) (Kp:World→World→Prop) (S Sp:List α→Prop) (N:Nat) (w:World) (G:List α→α→World→Prop):Prop :=
 ∀ (l:Nat) (J Jx:List α→World→Prop) (W:World),Below w.heap.size w W→AbidesFrom W.heap.size J→AbidesFrom W.heap.size Jx →
  (∀ pre x W1,J pre W1→G pre x W1→pre.length<N→YieldAt Fence.wide (n - 1) P l (encs x) W1 fun e W' =>
   (e = .returned (.bool true)∧J (pre++[x]) W'∧Kp W1 W')∨(e = .returned (.bool false)∧Jx (pre++[x]) W')) →
  J [] W →
  CallsIn Fence.wide n P g (#[.func (.yield l) #[] #[]]++lb) W fun e W'=>(∃ v,e = .returned v)∧((∃ xs,S xs∧J xs W')∨(∃ pre,Sp pre∧Jx pre W'))
theorem uD {P:Program} {α:Type} {g:Operand} {ps:Array Tmp} {assign body:Code} {Q:Exit→Act→World→Prop} {a:Act} {w:World} (n:Nat)
  {gf:Nat} {lb:Array Value} (hg:a.eval g = .func (.func gf) #[] lb) (eg:∀ args w,(callFunc gf args).run P w = .ok (.enter gf args) w)
  {encs:α→Array Value} {Kp:World→World→Prop} {S Sp:List α→Prop} {N:Nat} {w0:World} {G:List α→α→World→Prop} (hseq:Sv (n+1) P gf lb encs Kp S Sp N w0 G)
  (hKt:∀ {A B C:World},Kp A B→Kp B C→Kp A C) (hKb:∀ (W:World) (l:Nat) (o o':Obj),w.heap.size≤l→W.heap[l]?=some o→o.isCells=false→o.isWalk=false→Kp W (W.putObj l o')) (hb0:Below w0.heap.size w0 w) (hps:∀ x,(encs x).size=ps.size)
  (I:List α→World→Prop) (Im:α→Act→List α→World→Prop) (Ix:Code→List α→World→Prop) (hI:OwnFrom w.heap.size I) (hIm:∀ x a,OwnFrom w.heap.size (Im x a)) (hIx:∀ c,OwnFrom w.heap.size (Ix c)) (h0:I [] w)
  (hassign:∀ (l:Nat) (pre:List α) (x:α) (W:World),I pre W→G pre x W→pre.length<N →
   assign.wpIn (Fence.wide.inRound l) n P (Exit.then (fun a₁ W₁=>KeepsOthers W W₁∧Kp W W₁∧Im x a₁ pre W₁) (fun _ _ _=>False)) { tmps:=(ps.zip (encs x)).foldl (fun t (p,v)=>t.setIfInBounds p v) a.tmps,defers:=[] } W)
  (hbody:∀ (l:Nat) (pre:List α) (x:α) (a₁:Act) (W:World),Im x a₁ pre W→pre.length<N→body.wpIn (Fence.wide.inRound l) n P (ownPostK Kp I Ix (pre++[x]) W) a₁ W)
  (hdone:∀ (D:Nat) (xs:List α) (W:World),w.heap.size≤D→S xs→I xs W→W.heap[D]?=some (.deferred (some []))→Q .normal { a with defers:={ target := .collected D,args:=#[] }::a.defers } W)
  (hstop:∀ (D:Nat) (c:Code) (pre:List α) (W:World),w.heap.size≤D→Sp pre→Ix c pre W→W.heap[D]?=some (.deferred (some []))→c.wp P Q { a with defers:={ target := .collected D,args:=#[] }::a.defers } W) :
  (Code.rangeFunc g ps assign body).wp P Q a w:=by
 refine (wpIn_wide (n:=n+2)).1 (wpIn_rangeFunc ?_);intro fn _;obtain ⟨rec,hrec⟩:∃ rec:LoopState→Option Code→Loop,rec=fun st pe=>{ state:=st,pending:=pe,fn,tmps:=a.tmps,params:=ps,assign,body,defers:=w.heap.size }:=⟨_,rfl⟩
 obtain ⟨W1,hW1⟩:∃ W1,(w.alloc (.deferred (some []))).alloc (.loop (rec .ready none))=W1:=⟨_,rfl⟩
 have hL1:W1.heap[w.heap.size+1]?=some (.loop (rec .ready none)):=by
  rw [←hW1];have:=World.alloc_heap_new (w.alloc (.deferred (some []))) (.loop (rec .ready none));rwa [World.size_alloc] at this
 have hK1:W1.heap[w.heap.size]?=some (.deferred (some [])):=by
  rw [←hW1];exact (Below.heap_alloc _ _ _ (by simp)).trans (World.alloc_heap_new w _)
 have hI1:I [] W1:=by rw [←hW1];exact hI.alloc _ (hI.alloc _ h0)
 have hb1:Below w0.heap.size w0 W1:=by
  rw [←hW1];exact hb0.trans ((((Below.refl _ w).alloc (aad _) _).alloc (by simp) _).mono hb0.size)
 refine ⟨w.heap.size+1,[{ target := .collected w.heap.size,args:=#[] }],W1,{ target := .fn (.func gf) lb,args:=#[.func (.yield (w.heap.size+1)) #[] #[]] },W1,gf,
  #[.func (.yield (w.heap.size+1)) #[] #[]]++lb,W1,?_,?_,?_,?_,fun _=>by omega,?_⟩
 ·rw [←hW1,hrec];exact run_enterLoop_outer _ _ _ _ _
 ·simp only [resolve,hg]
  simp [go_sem]
 ·intro f' _;trivial
 ·simp [invoke,go_sem,eg]
 ·have hnw:∀ {A B:World} {row:Option Nat},(∀ r,row=some r→W1.heap.size≤r∧∃ o:Obj,A.heap[r]?=some o∧o.isWalk=true)→(∀ r,row=some r→w.heap.size≤r∧∃ o:Obj,A.heap[r]?=some o∧o.isCells=false) :=
   fun hr r e=>by obtain ⟨hB,o,ho,hw⟩:=hr r e;exact ⟨by rw [←hW1] at hB;simp at hB;omega,o,ho,Obj.not_cells_of_walk hw⟩
  refine (hseq (w.heap.size+1)
   (fun pre W=>I pre W∧W.heap[w.heap.size+1]?=some (.loop (rec .ready none))∧W.heap[w.heap.size]?=some (.deferred (some [])))
   (fun pre W=>∃ c,Ix c pre W∧W.heap[w.heap.size+1]?=some (.loop (rec .done (some c)))∧W.heap[w.heap.size]?=some (.deferred (some [])))
   W1 hb1
   (fun s A B row hs hg' hr=>⟨hI s A B row hs.1 hg' (hnw (B:=B) hr),(grownBy_keeps hg' (fun r e=>(hr r e).2) hs.2.1 rfl).trans hs.2.1,(grownBy_keeps hg' (fun r e=>(hr r e).2) hs.2.2 rfl).trans hs.2.2⟩)
   (fun s A B row hs hg' hr=>by
    obtain ⟨c,hc,hl,hk⟩:=hs;exact ⟨c,hIx c s A B row hc hg' (hnw (B:=B) hr),(grownBy_keeps hg' (fun r e=>(hr r e).2) hl rfl).trans hl,(grownBy_keeps hg' (fun r e=>(hr r e).2) hk rfl).trans hk⟩)
   ?_ ⟨hI1,hL1,hK1⟩).mono ?_
  ·rintro pre x W ⟨hi,hl,hk⟩ hG hlen
   have hy:=run_yield (P:=P) (args:=encs x) hl (by rw [hrec];exact hps x);rw [hrec] at hy;refine ⟨fn,_,assign,body,hy,roundIn_of_wpIn trivial (wpIn_mono (hassign _ pre x W hi hG hlen) ?_)⟩;rintro e a1 Wa hp;cases e with
   | normal =>
    obtain ⟨hka,hkpa,hma⟩:=hp;have hla:=hka.same _ _ hl rfl;have hkka:=hka.same _ _ hk rfl;have hlt:w.heap.size+1<Wa.heap.size:=(aaI.1 hla).1;refine ⟨_,run_beginRound hla (by rw [hrec]),?_⟩;have hl2:(Wa.putObj (w.heap.size+1) (.loop { rec .ready none with state := .busy })).heap[w.heap.size+1]?=some (.loop { rec .ready none with state := .busy }):=World.putObj_heap_same hlt;have hk2:(Wa.putObj (w.heap.size+1) (.loop { rec .ready none with state := .busy })).heap[w.heap.size]?=some (.deferred (some [])):=(World.putObj_heap_other (by omega)).trans hkka;have hw2:Kp W (Wa.putObj (w.heap.size+1) (.loop { rec .ready none with state := .busy })):=hKt hkpa (hKb _ _ _ _ (by omega) hla rfl rfl);refine wpIn_mono (hbody _ pre x a1 _ ((hIm x a1).putObj _ hma (by omega) hla rfl) hlen) ?_
    have fin:∀ (jump:Option Code) (W3:World),KeepsOthers (Wa.putObj (w.heap.size+1) (.loop { rec .ready none with state := .busy })) W3 →
      (Instr.endRound (w.heap.size+1) jump).run P W3 = .ok (.bool jump.isNone) (W3.putObj (w.heap.size+1) (.loop (rec (if jump.isNone then .ready else .done) jump))) ∧
      W3.heap[w.heap.size+1]?=some (.loop { rec .ready none with state := .busy }) ∧
      (W3.putObj (w.heap.size+1) (.loop (rec (if jump.isNone then .ready else .done) jump))).heap[w.heap.size+1]?=some (.loop (rec (if jump.isNone then .ready else .done) jump)) ∧
      (W3.putObj (w.heap.size+1) (.loop (rec (if jump.isNone then .ready else .done) jump))).heap[w.heap.size]?=some (.deferred (some [])):=fun jump W3 hk3=>by
     have hl3:=hk3.same _ _ hl2 rfl
     have:=run_endRound (P:=P) jump hl3
     rw [hrec] at this ⊢;exact ⟨this,by rw [hrec] at hl3;exact hl3,World.putObj_heap_same (aaI.1 hl3).1,(World.putObj_heap_other (by omega)).trans (hk3.same _ _ hk2 rfl)⟩
    rintro e a3 W3 hp;cases e with
    | normal =>
     obtain ⟨hk3,hkp3,hi3⟩:=hp;obtain ⟨hr,hl3,hl4,hk4⟩:=fin none W3 hk3;exact ⟨_,_,hr,.inl ⟨rfl,⟨hI.putObj _ hi3 (by omega) hl3 rfl,hl4,hk4⟩,hKt (hKt hw2 hkp3) (hKb _ _ _ _ (by omega) hl3 rfl rfl)⟩⟩
    | ret =>
     obtain ⟨hk3,hi3⟩:=hp;obtain ⟨hr,hl3,hl4,hk4⟩:=fin (some .ret) W3 hk3;exact ⟨_,_,hr,.inr ⟨rfl,.ret,(hIx _).putObj _ hi3 (by omega) hl3 rfl,hl4,hk4⟩⟩
    | exit id =>
     obtain ⟨hk3,hi3⟩:=hp;obtain ⟨hr,hl3,hl4,hk4⟩:=fin (some (.exit id)) W3 hk3;exact ⟨_,_,hr,.inr ⟨rfl,.exit id,(hIx _).putObj _ hi3 (by omega) hl3 rfl,hl4,hk4⟩⟩
    | goto t =>
     obtain ⟨hk3,hi3⟩:=hp;obtain ⟨hr,hl3,hl4,hk4⟩:=fin (some (.goto t)) W3 hk3;exact ⟨_,_,hr,.inr ⟨rfl,.goto t,(hIx _).putObj _ hi3 (by omega) hl3 rfl,hl4,hk4⟩⟩
    | panic ch=>exact hp.elim
    | outgrown=>exact hp.elim
   | ret=>exact hp.elim
   | exit id=>exact hp.elim
   | goto t=>exact hp.elim
   | panic ch=>exact hp.elim
   | outgrown=>exact hp.elim
  ·rintro e W2 ⟨⟨v,rfl⟩,(⟨xs,hS,hi,hl,hk⟩ | ⟨pre,hSp,c,hi,hl,hk⟩)⟩
   ·exact ⟨none,_,by have:=run_endLoop (P:=P) hl (by rw [hrec];simp);rw [hrec] at this;exact this,hdone _ xs _ (aad _) hS (hI.putObj _ hi (by omega) hl rfl) ((World.putObj_heap_other (by omega)).trans hk)⟩
   ·exact ⟨some c,_,by have:=run_endLoop (P:=P) hl (by rw [hrec];simp);rw [hrec] at this;exact this,wpIn_wide.2 (hstop _ c pre _ (aad _) hSp ((hIx c).putObj _ hi (by omega) hl rfl) ((World.putObj_heap_other (by omega)).trans hk))⟩
attribute [local go_sem] Oper.semAt_some
def TxAt (w:World) (v:Value) (t:List Nat):Prop:=∃ (g cap:Nat) (cur:Array Value),v = .slice (some ⟨g,0,none⟩) t.length cap∧Blk w g 5 cur∧t.length≤cap∧cap≤maxLen∧∀ (j:Nat) (u:Value),(ag t)[j]?=some u→cur[j]?=some u
theorem TxAt.of_own {w:World} {base:Nat} {v:Value} {t:List Nat} (h:w.ownsRow base 5 1 v t.length (ag t)) (h0:0<t.length):TxAt w v t:=by
 rcases h.2 with ⟨_,h2⟩ | ⟨g,cap,cur,hv,hb,hg,hnc,hcm,hcs,htk⟩
 ·omega
 ·refine ⟨g,cap,cur,hv,hg,hnc,hcm,fun j u hu=>?_⟩
  rw [←htk,aa6] at hu
  split at hu
  ·simpa using hu
  ·cases hu
theorem TxAt.kept {w w':World} {v:Value} {t:List Nat} {row:Option Nat} {B:Nat} (h:TxAt w v t) (hg:w.grownBy w' row) (hr:∀ r,row=some r→B≤r∧∃ o:Obj,w.heap[r]?=some o∧o.isCells=false):TxAt w' v t:=by
 obtain ⟨g,cap,cur,hv,hB,h1⟩:=h;exact ⟨g,cap,cur,hv,hB.kept hg hr,h1⟩
theorem TxAt.sl {w:World} {v:Value} {t:List Nat} (h:TxAt w v t):Sl w w.heap.size 1 v t.length (ag t):=by
 obtain ⟨g,cap,cur,rfl,hB,h1,h2,h3⟩:=h;exact ⟨_,_,rfl,⟨by rw [ai,aaA],fun _=>⟨g,0,rfl,hB.lt,fun j u hu=>by rw [aax,hB.cell];exact h3 j u hu⟩⟩,h1,h2,fun h=>by cases h⟩
theorem TxAt.below {w w':World} {v:Value} {t:List Nat} (h:TxAt w v t) (hb:Below w.heap.size w w'):TxAt w' v t:=by
 obtain ⟨g,cap,cur,hv,hB,h1⟩:=h;exact ⟨g,cap,cur,hv,hB.below hb hB.lt,h1⟩
theorem xh (l:List It):0<(bZ l).length:=by unfold bZ;simp
def Ltr.ok (x:Ltr):Prop:=(inI x.a0∧inI x.b0)∧(inI x.a1∧inI x.b1)∧(inI x.a2∧inI x.b2)
theorem KF (A:Option Addr) (n c:Nat) (w:World) :
  Calls prog 98 #[.slice A n c] w fun r w' =>
   r = .returned (.func (.func 172) #[] #[.pointer (some ⟨w.heap.size,0,none⟩)])∧w'=w.alloc (.cells #[.slice A n c] 34):=by
 have hmf:∀ (fn:Fn) (first cap:Array Value) (w:World),(Instr.makeFunc fn first cap).run prog w = .ok (.func fn first cap) w:=fun _ _ _ _=>rfl;go_enter func98,ntmps98;go_wp2
 go_ret;exact ⟨rfl,rfl⟩
theorem FO (bp B:Nat) (K:Nat→Prop) (hbp:K bp) (A:Option Addr) (c:Nat) (l:List Ltr) (hok:∀ x∈l,x.ok) (w:World) (hKB:∀ k,k<B→K k) (hB:Blk w bp 34 #[.slice A l.length c])
  (hA:Rd w B 6 A l.length (l.flatMap Ltr.cl)) (hBw:B≤w.heap.size) (hn:l.length≤1000) :
  Sv (2+1) prog 172 #[.pointer (some ⟨bp,0,none⟩)] (fun v:Value=>#[v]) (KeepsC K) (fun ys=>ys.length=l.length) (fun _=>True) l.length w (fun pre v W=>∃ t,(l.map Ltr.txt)[pre.length]?=some t∧TxAt W v t):=by
 intro L J Jx W hW hJ _ hY h0;replace hB:=hB.below hW hB.lt;replace hA:=hA.below (hW.mono hBw);have hBW:B≤W.heap.size:=aaj hBw hW.size;clear hW;refine callsIn_of_wp func172 rfl trivial ?_ rfl;simp only [ntmps172,aae,aas,List.length_nil,Nat.reduceAdd,Nat.reduceSub,aaV,aaW,aaX,aaY,aaJ,aaN];have c1:W.cell? ⟨bp,0,none⟩=some (.slice A l.length c):=hB.cell 0
 gi_wp2
 gi_loopw [7] (fun i wr=>∃ (pre:List Value) (k:Nat),i = .int .i64 k∧Hid (pre.length=k)∧k≤l.length∧W.heap.size≤wr.heap.size∧Blk wr bp 34 #[.slice A l.length c]∧Rd wr B 6 A l.length (l.flatMap Ltr.cl)∧J pre wr) (fun i _=>l.length - (intOf i).toNat)
 case atStart=>exact ⟨[],0,rfl,aab rfl,aao _,aad _,hB,hA,h0⟩
 case round =>
  clear hB h0 c1 hA;obtain ⟨pre,k,rfl,hpk,hk,hsz,hB,hA,hJ1⟩:=hrel;by_cases hlt:k<l.length
  ·obtain ⟨x,hx⟩:∃ x,Hid (l[k]?=some x):=⟨_,aab (aac hlt)⟩
   have hxo:=hok x (aam hx.out);obtain ⟨b,off,rfl,hbb,k0,k1,k2,k3,k4,k5⟩:=jS hA hlt hx.out;refine wpIn_wide.2 ?_;go_upto_region 3 with fail;have BS:=Blk.new wr 63 #[.int .i64 x.a0,.int .i64 x.b0,.int .i64 x.a1,.int .i64 x.b1,.int .i64 x.a2,.int .i64 x.b2] _ rfl;have hb1:=bAl (aj wr) (.cells #[.int .i64 x.a0,.int .i64 x.b0,.int .i64 x.a1,.int .i64 x.b1,.int .i64 x.a2,.int .i64 x.b2] 63);clear k0 k1 k2 k3 k4 k5;generalize wr.alloc (.cells #[.int .i64 x.a0,.int .i64 x.b0,.int .i64 x.a1,.int .i64 x.b1,.int .i64 x.a2,.int .i64 x.b2] 63)=w2 at *;obtain ⟨k0,k1,k2,k3,k4,k5⟩:=BS.six
   have q:=ND (some ⟨w2.heap.size,0,none⟩) 3 3 [.ciph x.a0 x.b0,.ciph x.a1 x.b1,.ciph x.a2 x.b2] (w2.alloc (.cells #[.iface 61 (.agg #[.int .i64 x.a0,.int .i64 x.b0]),.iface 61 (.agg #[.int .i64 x.a1,.int .i64 x.b1]),.iface 61 (.agg #[.int .i64 x.a2,.int .i64 x.b2])] 20))
    (Rd.new w2 _ _ 1 3 _ rfl rfl) (by intro y hy;simp at hy;rcases hy with rfl | rfl | rfl;exact hxo.1;exact hxo.2.1;exact hxo.2.2) (by decide)
   have hb2:=bAl hb1 (.cells #[.iface 61 (.agg #[.int .i64 x.a0,.int .i64 x.b0]),.iface 61 (.agg #[.int .i64 x.a1,.int .i64 x.b1]),.iface 61 (.agg #[.int .i64 x.a2,.int .i64 x.b2])] 20);have htx:Hid (bZ (List.flatMap Tx.its [.ciph x.a0 x.b0,.ciph x.a1 x.b1,.ciph x.a2 x.b2])=x.txt):=aab rfl;generalize bZ (List.flatMap Tx.its [.ciph x.a0 x.b0,.ciph x.a1 x.b1,.ciph x.a2 x.b2])=T at *;refine (wpIn_wide (n:=3)).1 ?_
   gi_wp2
   refine ⟨trivial,?_⟩;refine (callsIn_wide.2 q).mono ?_;rintro e w5 ⟨v5,rfl,b5,hown5⟩;have hb5:=ah hb2 b5;have hT:=TxAt.of_own hown5 (by rw [htx.out];exact xh _);rw [htx.out] at hT;have hJ5:=hJ _ _ _ none hJ1 (grownBy_below hb5 none) (by intro r e;cases e);have hB5:=hB.below hb5 hB.lt;have hA5:=hA.below (hb5.mono (by omega));have hsz5:=aaj hsz hb5.size;obtain ⟨fn,tmps,assign,body,hy,hR⟩:=hY pre v5 w5 hJ5 ⟨x.txt,by rw [hpk.out,aaD,hx.out];rfl,hT⟩ (by rw [hpk.out];exact hlt);clear q k0 k1 k2 k3 k4 k5 hown5 hY
   gi_wp2
   refine hR.mono ?_;rintro e W3 (⟨rfl,hJ3,hk3⟩ | ⟨rfl,hJx3⟩)
   ·have hB3:=hk3.blk hbp hB5
    have hA3:=hk3.rd hKB hA5;have hs3:=aaj hsz5 hk3.1;clear hy hB5 hA5 hB hA
    gi_wp2
    go_wp2_with fail;exact ⟨⟨pre++[v5],k+1,by go_num,by show _=_;rw [aan,hpk.out];rfl,by omega,hs3,hB3,hA3,hJ3⟩,by simp [intOf];omega⟩
   ·gi_wp2
    go_wp2_with fail;refine bodyPost_ret (results_none rfl _ _ _) rfl ?_;exact ⟨⟨_,rfl⟩,.inr ⟨_,trivial,hJx3⟩⟩
  ·gi_wp2
   go_end0;exact ⟨⟨_,rfl⟩,.inl ⟨pre,by have:=hpk.out;omega,hJ1⟩⟩
end
section
open Go.RowKit
attribute [local go_sem] Oper.semAt_some
theorem Blk.not_row {W:World} {g:Nat} {t e:TypeId} {cs:Array Value} (h:Blk W g t cs) (hte:t≠e) {base size k:Nat} {v:Value} {xs:List Value} (hr:W.ownsRow base e size v k xs):some g≠v.ownBlock:=by
 rcases hr.2 with ⟨rfl,_⟩ | ⟨g2,cap,cur,rfl,_,hgb,_⟩
 ·simp [Value.ownBlock]
 ·intro e2
  have e3:g=g2:=by simpa [Value.ownBlock] using e2
  subst e3;unfold Blk at h;rw [h] at hgb;simp at hgb;exact hte hgb.2
theorem TxAt.app {W w1:World} {B n₀ k:Nat} {v x:Value} {t:List Nat} {xs:List Value} {tmp:Obj} {u v':Value} (h:TxAt W x t) (hv:Blk W B 142 #[u]) (hrow:W.ownsRow n₀ 83 1 v k xs) (hgrow:(W.alloc tmp).grownBy w1 v.ownBlock):TxAt (w1.setCell ⟨B,0,none⟩ v') x t:=by
 obtain ⟨g,cap,cur,hx,hB,h1⟩:=h;refine ⟨g,cap,cur,hx,?_,h1⟩;have h2:Blk w1 g 5 cur:=(hgrow.block g (by simp;have:=hB.lt;omega) (hB.not_row (by decide) hrow)).trans (hB.alloc tmp);exact h2.far (p:=⟨B,0,none⟩) (hB.neT hv (by decide)) _
theorem KeepsC.of_below {B:Nat} {X Y:World} (h:Below B X Y):KeepsC (fun k=>k<B) X Y:=⟨h.size,fun k _ _ _ hk _=>h.block k hk⟩
theorem KG:(prog.info? 83).map (fun i=>(i.zero,i.size,i.bytes))=some (some (.slice none 0 0),1,24):=by kernel_rfl
theorem Cm {W W':World} {base:Nat} {e:TypeId} {size:Nat} {v:Value} {k:Nat} {xs:List Value} {row:Option Nat} {B:Nat} (h:W.ownsRow base e size v k xs) (hg:W.grownBy W' row) (hr:∀ r,row=some r→B≤r∧∃ o:Obj,W.heap[r]?=some o∧o.isCells=false):W'.ownsRow base e size v k xs:=by
 refine h.kept hg ?_;rcases h.2 with ⟨rfl,_⟩ | ⟨g,cap,cur,rfl,_,hgb,_⟩
 ·exact .inl rfl
 ·refine .inr fun e'=>?_
  obtain ⟨_,o,ho,hw⟩:=hr g (by simpa [Value.ownBlock] using e'.symm);rw [hgb] at ho;cases ho;cases hw
def GotAt (ts:List (List Nat)) (w:World) (pre:List Value) (W:World):Prop:=∃ v,Blk W w.heap.size 142 #[v]∧W.ownsRow w.heap.size 83 1 v pre.length pre∧(∀ (k:Nat) (u:Value) (t:List Nat),pre[k]?=some u→ts[k]?=some t→TxAt W u t)∧Below w.heap.size w W
theorem GotAt.kept {ts:List (List Nat)} {w:World} {pre:List Value} {W W':World} {row:Option Nat} {B:Nat} (h:GotAt ts w pre W) (hB:w.heap.size≤B) (hg:W.grownBy W' row) (hr:∀ r,row=some r→B≤r∧∃ o:Obj,W.heap[r]?=some o∧o.isCells=false):GotAt ts w pre W':=by
 obtain ⟨v,h1,h2,h3,h4⟩:=h;exact ⟨v,h1.kept hg hr,Cm h2 hg hr,fun k u t hu ht=>(h3 k u t hu ht).kept hg hr,gz h4 hg hB hr⟩
theorem KH (gf:Nat) (lb:Array Value) (eg:∀ args w,(callFunc gf args).run prog w = .ok (.enter gf args) w) (ts:List (List Nat)) (w:World) (hn:ts.length≤1000)
  (hseq:Sv (2+1) prog gf lb (fun v:Value=>#[v]) (KeepsC (fun k=>k<w.heap.size)) (fun ys=>ys.length=ts.length) (fun _=>True) ts.length w (fun pre v W=>∃ t,ts[pre.length]?=some t∧TxAt W v t)) :
  Calls prog 171 #[.slice none 0 0,.func (.func gf) #[] lb] w (fun e w'=>∃ (v:Value) (vs:List Value),e = .returned v∧vs.length=ts.length∧Below w.heap.size w w'∧w'.ownsRow w.heap.size 83 1 v vs.length vs∧∀ (k:Nat) (u:Value) (t:List Nat),vs[k]?=some u→ts[k]?=some t→TxAt w' u t):=by
 refine dQ func171 rfl ?_;simp only [ntmps171,aae,aas,List.length_nil,Nat.reduceAdd,Nat.reduceSub,aaV,aaW,aaX,aaY,aaJ,aaN];go_wp2_with fail;have hI0:GotAt ts w [] (w.alloc (.cells #[.slice none 0 0] 142)):=⟨_,Blk.new w _ _ _ rfl,World.ownsRow_nil _ _ _ _,fun k u t hu _=>by simp at hu,bAl (aj w) _⟩
 have hb0:Below w.heap.size w (w.alloc (.cells #[.slice none 0 0] 142)):=bAl (aj w) _;generalize w.alloc (.cells #[.slice none 0 0] 142)=w1 at *
 refine uD 2 (gf:=gf) (lb:=lb) rfl eg (w0:=w) hseq KeepsC.trans (fun W l o o' _ hl ho _=>KeepsC.put W l o o' hl ho) hb0 (fun _=>rfl)
   (fun pre W'=>GotAt ts w pre W')
   (fun x a₁ pre W'=>(GotAt ts w pre W'∧∃ t,ts[pre.length]?=some t∧TxAt W' x t)∧a₁={ tmps:=#[.slice none 0 0,.func (.func gf) #[] lb,.pointer (some ⟨w.heap.size,0,none⟩),undef,.slice none 0 0,x,.func (.func gf) #[] lb,x,undef,undef,undef,undef,undef],defers:=[] })
   (fun _ _ _=>False)
   (fun pre A' B' row h hg hr=>h.kept hb0.size hg hr)
   (fun x a pre A' B' row h hg hr=>⟨⟨h.1.1.kept hb0.size hg hr,by obtain ⟨t,ht,h2⟩:=h.1.2;exact ⟨t,ht,h2.kept hg hr⟩⟩,h.2⟩)
   (fun _ _ _ _ _ h _ _=>h)
   hI0 ?assign ?body ?done ?stop
 case assign =>
  rintro L pre x Wc hI ⟨t,ht,hT⟩ hlen
  gi_wp2
  exact ⟨KeepsOthers.refl _,KeepsC.refl _ _,⟨hI,t,ht,hT⟩,trivial⟩
 case body =>
  rintro L pre x a₁ Wc ⟨⟨⟨v,hB,hown,hTs,hb⟩,t,ht,hT⟩,rfl⟩ hlen;have d1:Wc.cell? ⟨w.heap.size,0,none⟩=some v:=hB.cell 0;obtain ⟨i0,hi,hz0,hz1,hz2⟩:=info_parts KG;have hi':=aab hi;have hz0':=aab hz0;have hz1':=aab hz1;have hz2':=aab hz2;obtain ⟨gx,cx,curx,hxe,hx2⟩:=id hT;have h63:pre.length+1≤maxLen:=by unfold maxLen;omega
  have hby:(pre.length+1)*24≤140737488355328:=by omega
  have hbs:w.heap.size≤(Wc.alloc (.cells #[x] 83)).heap.size:=by have:=hb.size;simp;omega
  subst hxe;have hone:∀ u∈[Value.slice (some ⟨gx,0,none⟩) t.length cx],u.oneCell'=true:=by intro u hu;simp at hu;subst hu;rfl
  clear hi hz0 hz1 hz2 hx2
  gi_wp2_with (gi_at_builtin;refine wpListIn_append_own _ (by rfl) (.tmp 8) (.tmp 10) 142 (by rfl) w.heap.size 83 i0 (.slice none 0 0) 1 24 underlying142 hi'.out hz0'.out hz1'.out hz2'.out rfl (by decide) v pre.length pre (by rfl) (hown.alloc _) ⟨Wc.heap.size,0,none⟩ 1 1 [.slice (some ⟨gx,0,none⟩) t.length cx] (by rfl) (by rfl) (cell_one_new _ _ _) hone h63 hby hbs ?_;intro v' w3 hown3 hg3 _;obtain ⟨g',cap',rfl⟩:=ownsRow_succ hown3;obtain ⟨a1,a2,a3,a4,a5⟩:=Boxed.appended (B:=w.heap.size) hB (by decide) hown hb.size (aad _) hown3 hg3;have d3:=a1.cell;have z3:=a1.frozen)
  refine ⟨a4,KeepsC.of_below a5,_,a2,by rw [aan];exact a3,fun k u s hu hs=>?_,hb.trans a5⟩;by_cases hk:k<pre.length
  ·rw [aaO hk] at hu
   exact (hTs k u s hu hs).app hB hown hg3
  ·rw [aaz (by omega)] at hu
   have hk0:k - pre.length=0:=by
    rcases aa7 (k - pre.length) with h | h
    ·exact h
    ·obtain ⟨m,hm⟩:∃ m,k - pre.length=m+1:=⟨k - pre.length - 1,by omega⟩
     rw [hm] at hu;simp at hu
   have hke:k=pre.length:=(by omega);subst hke;rw [hk0] at hu;simp at hu;rw [ht] at hs;injection hs with hs
   subst hs;subst hu;exact hT.app hB hown hg3
 case done =>
  rintro D xs Wc hD hp ⟨v,hB,hown,hTs,hb⟩ hd;have d1:Wc.cell? ⟨w.heap.size,0,none⟩=some v:=hB.cell 0;go_wp2_with fail;refine cZ (by simp) hd ?_;refine ⟨v,by simp [results,results171,go_sem],v,xs,rfl,hp,uQ hb (aaj hb0.size hD) _,ownsRow_putObj hown _ hd rfl,fun k u t hu ht=>(hTs k u t hu ht).kept (B:=0) (grownBy_putObj' Wc D _) (fun r e=>by cases e;exact ⟨aao _,_,hd,rfl⟩)⟩
 case stop =>
  rintro D c' pre Wc _ _ h _;exact h.elim
theorem IB (gf:Nat) (lb:Array Value) (eg:∀ args w,(callFunc gf args).run prog w = .ok (.enter gf args) w) (ts:List (List Nat)) (w:World) (hn:ts.length≤1000)
  (hseq:Sv (2+1) prog gf lb (fun v:Value=>#[v]) (KeepsC (fun k=>k<w.heap.size)) (fun ys=>ys.length=ts.length) (fun _=>True) ts.length w (fun pre v W=>∃ t,ts[pre.length]?=some t∧TxAt W v t)) :
  Calls prog 97 #[.func (.func gf) #[] lb] w (fun e w'=>∃ (v:Value) (vs:List Value),e = .returned v∧vs.length=ts.length∧Below w.heap.size w w'∧w'.ownsRow w.heap.size 83 1 v vs.length vs∧∀ (k:Nat) (u:Value) (t:List Nat),vs[k]?=some u→ts[k]?=some t→TxAt w' u t):=by
 have q:=KH gf lb eg ts w hn hseq;clear hseq eg;go_enter func97,ntmps97;go_wp2_with fail;refine q.mono ?_;rintro e w1 ⟨v,vs,rfl,h1,h2,h3,h4⟩;clear q;go_wp2_with fail;go_ret;exact ⟨v,vs,rfl,h1,h2,h3,h4⟩
end
section
open Go.RowKit
attribute [local go_sem] Oper.semAt_some
theorem Sz (A:Option Addr) (n c:Nat) (w:World) :
  Calls prog 170 #[.slice A n c] w fun r w' =>
   r = .returned (.func (.func 230) #[] #[.pointer (some ⟨w.heap.size,0,none⟩)])∧w'=w.alloc (.cells #[.slice A n c] 142):=by
 have hmf:∀ (fn:Fn) (first cap:Array Value) (w:World),(Instr.makeFunc fn first cap).run prog w = .ok (.func fn first cap) w:=fun _ _ _ _=>rfl;go_enter func170,ntmps170;go_wp2
 go_ret;exact ⟨rfl,rfl⟩
theorem KI {K:Nat→Prop} {X Y:World} {base:Nat} {e:TypeId} {sz n:Nat} {v:Value} {xs:List Value} (hk:KeepsC K X Y) (hK:∀ k,base≤k→K k) (h:X.ownsRow base e sz v n xs):Y.ownsRow base e sz v n xs:=by
 obtain ⟨h1,h2⟩:=h;refine ⟨h1,?_⟩;rcases h2 with h2 | ⟨g,cap,cur,r0,r1,hg,r2⟩
 ·exact .inl h2
 ·exact .inr ⟨g,cap,cur,r0,r1,(hk.2 g _ _ _ (hK g r1) hg).trans hg,r2⟩
theorem ShaG.keepsC {K:Nat→Prop} {X Y:World} (h:ShaG X) (hk:KeepsC K X Y) (h1:K 2) (h2:K 0):ShaG Y :=
 ⟨fun i x hx=>hk.cell (p:=⟨2,i,none⟩) h1 (h.1 i x hx),fun i x hx=>hk.cell (p:=⟨0,i,none⟩) h2 (h.2.1 i x hx),aaS h.2.2.1 hk.1,aaS h.2.2.2 hk.1⟩
theorem Sl.keepsC {K:Nat→Prop} {X Y:World} {B sz n:Nat} {v:Value} {xs:List Value} (h:Sl X B sz v n xs) (hk:KeepsC K X Y) (hK:∀ k,k<B→K k):Sl Y B sz v n xs:=by
 obtain ⟨A,c,e,hr,h1,h2,h3⟩:=h;exact ⟨A,c,e,hk.rd hK hr,h1,h2,h3⟩
theorem zZ {l:List (List Nat)} (h:∀ d∈l,dL d):∀ k,∀ d∈jB l k,dL d
 | 0=>h
 | k+1=>J6 (zZ h k)
theorem IC (ts:List (List Nat)):∀ d∈ts.map iJ,dL d:=fun d hd=>by obtain ⟨x,_,rfl⟩:=aaK.1 hd;exact Ic x
def RowsAt (l:List (List Nat)) (k f:Nat):Prop:=k+f=l.length∧Dt l.length l=Dt f (jB l k)∧(jB l k).length≤f+1∧0<(jB l k).length
theorem RowsAt.next {l:List (List Nat)} {k f:Nat} (h:RowsAt l k f) (h1:1<(jB l k).length):RowsAt l (k+1) (f - 1):=by
 obtain ⟨e,ht,hl,hp⟩:=h;obtain ⟨f,rfl⟩:∃ g,f=g+1:=⟨f - 1,by omega⟩
 refine ⟨by omega,?_,?_,?_⟩
 ·rw [ht]
  show (if (jB l k).length≤1 then _ else Dt f (upN (jB l k)))=_;rw [if_neg (by omega)];rfl
 ·show (upN (jB l k)).length≤_
  rw [lK];omega
 ·show 0<(upN (jB l k)).length
  rw [lK];omega
theorem RowsAt.end_ {l:List (List Nat)} {k f:Nat} (h:RowsAt l k f) (h1:¬1<(jB l k).length):Dt l.length l=(jB l k).headD []:=by
 obtain ⟨e,ht,hl,hp⟩:=h;rw [ht];cases f with
 | zero=>rfl
 | succ f =>
  show (if (jB l k).length≤1 then (jB l k).headD [] else _)=_;rw [if_pos (by omega)]
theorem KJ (bp bd:Nat) (A:Option Addr) (c:Nat) (ts:List (List Nat)) (vs:List Value) (w:World) (hbd:bd<w.heap.size) (hB:Blk w bp 142 #[.slice A ts.length c])
  (hA:Rd w bd 1 A ts.length vs) (hT:∀ (k:Nat) (u:Value) (t:List Nat),vs[k]?=some u→ts[k]?=some t→Sl w bd 1 u t.length (ag t)) (hok:∀ t∈ts,okB t∧0<t.length∧t.length≤100000000000) (h00:0<ts.length) (hn:ts.length≤1000) (hG:ShaG w) (hg1:2<bd∧0<bd) :
  Sv (2+1) prog 230 #[.pointer (some ⟨bp,0,none⟩)] (fun v:Value=>#[v]) (KeepsC (fun k=>k≠bd)) (fun ys=>∃ k,ys.length=k+1∧Dt ts.length (ts.map iJ)=(jB (ts.map iJ) k).headD []) (fun _=>True) (ts.length+1) w
   (fun pre v W=>Sl W W.heap.size 32 v (jB (ts.map iJ) pre.length).length ((jB (ts.map iJ) pre.length).flatMap ag)∧0<(jB (ts.map iJ) pre.length).length):=by
 intro L J Jx W hW hJ _ hY h0;replace hB:=hB.below hW hB.lt;replace hA:=hA.below (hW.mono (Nat.le_of_lt hbd));replace hT:∀ (k:Nat) (u:Value) (t:List Nat),vs[k]?=some u→ts[k]?=some t→Sl W bd 1 u t.length (ag t):=fun k u t hu ht=>(hT k u t hu ht).below (hW.mono (Nat.le_of_lt hbd));replace hG:=hG.below hW;replace hbd:bd<W.heap.size:=aaS hbd hW.size;clear hW;refine callsIn_of_wp func230 rfl trivial ?_ rfl;simp only [ntmps230,aae,aas,List.length_nil,Nat.reduceAdd,Nat.reduceSub,aaV,aaW,aaX,aaY,aaJ,aaN];have c1:W.cell? ⟨bp,0,none⟩=some (.slice A ts.length c):=hB.cell 0;replace hT:=aab hT;replace hok:=aab hok;replace hY:=aab hY
 gi_wp2
 gi_loopw [8,3] (fun i row wr=>∃ (k:Nat) (v:Value),i = .int .i64 k∧row=v∧k≤ts.length∧Below W.heap.size W wr∧wr.ownsRow W.heap.size 29 32 v k (((ts.take k).map iJ).flatMap ag)) (fun i _ _=>ts.length - (intOf i).toNat)
 case atStart=>exact ⟨0,_,rfl,rfl,aao _,aj _,World.ownsRow_nil _ _ _ _⟩
 case round =>
  clear c1;obtain ⟨k,v,rfl,rfl,hk,hb,hown⟩:=hrel;by_cases hlt:k<ts.length
  ·obtain ⟨t,ht⟩:∃ x,Hid (ts[k]?=some x):=⟨_,aab (aac hlt)⟩
   obtain ⟨b,off,rfl,hbb,hc⟩:=(hA.below (hb.mono (Nat.le_of_lt hbd))).2 (by omega);have hvl:vs.length=ts.length:=(by have:=hA.1;omega);obtain ⟨u,hu⟩:∃ x,Hid (vs[k]?=some x):=⟨_,aab (aac (by omega))⟩
   have d0:=hc k u hu.out;clear hc;obtain ⟨At,ct,rfl,hRt,_⟩:=(hT.out k u t hu.out ht.out).below (hb.mono (Nat.le_of_lt hbd));obtain ⟨ho1,ho2,ho3⟩:=hok.out t (aam ht.out);have q:=UV At ct t wr (hRt.more (by have:=hb.size;omega)) ho1 ho2 ho3 (hG.below hb);unfold dig at q
   have hsn:Hid (((ts.take (k+1)).map iJ).flatMap ag=((ts.take k).map iJ).flatMap ag++ag (iJ t)):=by
    obtain ⟨hk,rfl⟩:=aag.1 ht.out;show _=_;rw [aaB hk,aaT,aaP];simp
   have hN:(iJ t).length=32:=O9 t;have hlN:(ag (iJ t)).length=32:=(by rw [ai,hN]);have h63:k+1≤maxLen:=(by unfold maxLen;omega);have hby:(k+1)*32≤140737488355328:=(by omega);generalize iJ t=D at *;generalize ((ts.take k).map iJ).flatMap ag=X at *;refine wpIn_wide.2 ?_;go_wp2_with fail;refine q.mono ?_;rintro e w5 ⟨rfl,b5⟩;replace hown:=aC hown b5;replace hb:=ah hb b5;have hs5:=hb.size;clear q b5 d0;go_wp2_with (at_builtin;rw [Eo hN];refine aO w5 (ag D) (.tmp 12) (.tmp 15) 23 W.heap.size 29 sF 32 32 _ k X (by rfl) (by rfl) underlying23 dN rfl (by omega) (by rfl) hown (by rfl) hlN aZ h63 hby hs5 ?_;intro v' w' hown4 hg4)
   exact ⟨⟨k+1,v',by go_num,rfl,by omega,hb.trans (hg4.below hown hs5),by rw [hsn.out];exact hown4⟩,by simp [intOf];omega⟩
  ·have hkn:k=ts.length:=by omega
   subst hkn;rw [abk] at hown;have hJ1:=hJ _ _ _ none h0 (grownBy_below hb none) (by intro r e;cases e);have hG1:=hG.below hb;have hs1:=hb.size;have hl0:Hid (ts.length=(ts.map iJ).length):=aab (by simp);have hle:=IC ts;have hrt:Hid (RowsAt (ts.map iJ) 0 ts.length):=aab ⟨by rw [←hl0.out];omega,by rw [←hl0.out];rfl,by show (ts.map iJ).length≤_;rw [←hl0.out];omega,by show 0<(ts.map iJ).length;rw [←hl0.out];exact h00⟩;clear hT hok hB hA h0;generalize hle0:ts.map iJ=l0 at *;replace hle0:=aab hle0
   gi_wp2
   gi_loopw [3] (fun row wr=>∃ (pre:List Value) (k f n:Nat) (v:Value),row=v∧Hid (pre.length=k∧RowsAt l0 k f∧(jB l0 k).length=n)∧n≤1000∧wr.ownsRow W.heap.size 29 32 v n ((jB l0 k).flatMap ag)∧ShaG wr∧W.heap.size≤wr.heap.size∧J pre wr) (fun row _=>rowLen row)
   case atStart=>exact ⟨[],0,ts.length,ts.length,_,rfl,aab ⟨rfl,hrt.out,hl0.out.symm⟩,hn,hown,hG1,hs1,hJ1⟩
   case round =>
    clear hown hG1 hs1 hJ1 hb hG;obtain ⟨pre,k,f,n,v,rfl,hh,hn1,hown,hG,hsz,hJ1⟩:=hrel;obtain ⟨A2,c2,rfl,hR2,hc,hc2,hnil⟩:=Sl.of_own hown
    have hY1:=hY.out pre (.slice A2 n c2) wr hJ1 (by
     obtain ⟨e1,e2,e3⟩:=hh.out;rw [e1,e3];exact ⟨⟨A2,c2,rfl,hR2,hc,hc2,hnil⟩,by have:=e2.2.2.2;omega⟩) (by obtain ⟨e1,e2,e3⟩:=hh.out;have:=e2.1;have:=hl0.out;omega)
    obtain ⟨fn,tmps,assign,body,hy,hR⟩:=hY1;replace hy:=hy;by_cases h1:1<n
    ·gi_wp2
     refine hR.mono ?_;rintro e W3 (⟨rfl,hJ3,hk3⟩ | ⟨rfl,hJx3⟩)
     ·have hown3:=KI hk3 (fun k hk=>by omega) hown
      have hG3:=hG.keepsC hk3 (Nat.ne_of_lt hg1.1) (Nat.ne_of_lt hg1.2);have hs3:=aaj hsz hk3.1;obtain ⟨A3,c3,he,hR3,hc3,hc33,hnil3⟩:=Sl.of_own hown3;injection he with he1 he2 he3
      subst he1;subst he3;have q:=Xi A2 c2 (jB l0 k) W3 (by rw [hh.out.2.2];exact hR3) (zZ hle k) (by rw [hh.out.2.2];exact hn1) (by rw [hh.out.2.2];exact hc) hc2 (by rw [hh.out.2.2];exact hnil) hG3;rw [hh.out.2.2] at q;clear hy hown hown3 hR2 hR3;have hun:Hid ((upN (jB l0 k)).length=(n+1) / 2):=aab (by rw [lK,hh.out.2.2])
      gi_wp2
      refine ⟨trivial,?_⟩;refine (callsIn_wide.2 q).mono ?_;rintro e w5 ⟨v5,rfl,b5,hown5⟩;have hJ5:=hJ _ _ _ none hJ3 (grownBy_below b5 none) (by intro r e;cases e);have hG5:=hG3.below b5;have hs5:=aaj hs3 b5.size;have hown6:=own_base hown5 hs3;clear q
      gi_wp2
      obtain ⟨e1,e2,e3⟩:=hh.out;refine ⟨⟨pre++[.slice A2 n c2],k+1,f - 1,(n+1) / 2,v5,rfl,aab ⟨by rw [aan,e1];rfl,e2.next (by rw [e3];exact h1),hun.out⟩,by omega,by rw [hun.out] at hown6;exact hown6,hG5,hs5,hJ5⟩,?_⟩;obtain ⟨A6,c6,rfl,_⟩:=Sl.of_own hown6;show (upN (jB l0 k)).length<n;rw [hun.out];omega
     ·gi_wp2
      go_end0;exact ⟨⟨_,rfl⟩,.inr ⟨_,trivial,hJx3⟩⟩
    ·gi_wp2
     refine hR.mono ?_;rintro e W3 (⟨rfl,hJ3,hk3⟩ | ⟨rfl,hJx3⟩)
     ·gi_wp2
      go_end0;obtain ⟨e1,e2,e3⟩:=hh.out;exact ⟨⟨_,rfl⟩,.inl ⟨_,⟨k,by rw [aan,e1];rfl,by rw [hle0.out,hl0.out];exact e2.end_ (by rw [e3];exact h1)⟩,hJ3⟩⟩
     ·gi_wp2
      go_end0;exact ⟨⟨_,rfl⟩,.inr ⟨_,trivial,hJx3⟩⟩
end
section
open Go.RowKit
attribute [local go_sem] Oper.semAt_some
def headRow (l:List (List Nat)):Nat→List Nat
 | 0=>aF 32
 | n+1=>(jB l n).headD []
theorem zl {l:List (List Nat)} (h:∀ d∈l,dL d) (h0:0<l.length):∀ n,(headRow l n).length=32
 | 0=>by simp [headRow,aF]
 | n+1=>by
  have hp:∀ n,0<(jB l n).length:=fun n=>by
   induction n with
   | zero=>exact h0
   | succ n ih=>show 0<(upN (jB l n)).length;rw [lK];omega
  show ((jB l n).headD []).length=32
  have:=hp n
  match hr:jB l n with
  | []=>rw [hr] at this;simp at this
  | x::r=>exact (zZ h n x (by rw [hr];simp)).1
theorem KeepsC.of_grown {X Y:World} {row:Option Nat} {B:Nat} (hg:X.grownBy Y row) (hr:∀ r,row=some r→B≤r∧∃ o:Obj,X.heap[r]?=some o∧o.isCells=false):KeepsC (fun _=>True) X Y :=
 ⟨hg.size,fun k t cs fr _ hc=>hg.block k (aaI.1 hc).1 (fun e=>by
  obtain ⟨_,o,ho,hn⟩:=hr k e.symm
  rw [hc] at ho;cases ho;cases hn)⟩
theorem zY7 (w:World) (g:Nat) (cs:Array Value):w.grownBy (w.setRow g cs) (some g):=⟨rfl,rfl,rfl,by simp,fun k _ hk=>setRow_other w g k cs (fun e=>hk (by rw [e]))⟩
theorem U6 (A:Option Addr) (c:Nat) (ts:List (List Nat)) (vs:List Value) (W:World) (hA:Rd W W.heap.size 1 A ts.length vs) (hT:∀ (k:Nat) (u:Value) (t:List Nat),vs[k]?=some u→ts[k]?=some t→Sl W W.heap.size 1 u t.length (ag t))
  (hok:∀ t∈ts,okB t∧0<t.length∧t.length≤100000000000) (hn:ts.length≤1000) (hG:ShaG W) :
  Calls prog 96 #[.slice A ts.length c] W (Ret (dig (uC ts)) W):=by
 refine dQ func96 rfl ?_;simp only [ntmps96,aae,aas,List.length_nil,Nat.reduceAdd,Nat.reduceSub,aaV,aaW,aaX,aaY,aaJ,aaN];go_upto_region 1 with fail;change Code.wp _ _ _ _ (W.alloc (.cells (ag (aF 32)).toArray 29));have BD:=Blk.new W 29 (ag (aF 32)).toArray _ rfl;have hb:=bAl (aj W) (.cells (ag (aF 32)).toArray 29);generalize W.alloc (.cells (ag (aF 32)).toArray 29)=w1 at *;by_cases h0:ts=[]
 ·subst h0
  have hr:Hid (dig (uC []) = .agg (ag (dP Ri [])).toArray):=aab rfl;have hln:(dP Ri []).length=32:=dZ _ _;have q:=lD ⟨#[110,111,110,101]⟩ none 0 0 [] w1 Rd.nil_ (fun _=>⟨rfl,rfl⟩) (by intro x hx;cases hx) (by decide) (by decide) (hG.below hb);have hnoo:sb ⟨#[110,111,110,101]⟩=Ri:=by decide
  rw [hnoo] at q;unfold dig at q;generalize dP Ri []=X at *;clear hnoo hT hok hA;go_wp2_with fail;refine q.mono ?_;rintro e w5 ⟨rfl,b5⟩;have hb5:=ah hb b5;have BD5:=BD.below b5 BD.lt;clear q;dsimp only;go_step;refine wpList_store_row rfl 29 (.tmp 2) (.tmp 7) rfl W.heap.size (ag X).toArray rfl rfl 29 _ BD5 (by rw [aae,ai,hln];exact aW) (by rw [aae,aae,ai,ai,hln];rfl) (fK _) ?_;have hb9:=below_setRow hb5 (aad _) (ag X).toArray;have BD9:Blk (w5.setRow W.heap.size (ag X).toArray) W.heap.size 29 (ag X).toArray:=setRow_heap w5 W.heap.size _ _ 29 _ BD5;go_wp2_with fail;exact ⟨.agg (ag X).toArray,results_cell_row rfl _ _ W.heap.size 29 _ (0,0) _ rfl BD9 bQ rfl (by rw [aae,ai,hln];exact aW),by rw [←hr.out],hb9⟩
 ·have h00:0<ts.length:=by
   rcases aa7 ts.length with h | h
   ·exact absurd (abr h) h0
   ·exact h
  have hr:Hid (uC ts=Dt ts.length (ts.map iJ)):=aab (by unfold uC;rw [if_neg h0]);have hle:=IC ts;have hl0:0<(ts.map iJ).length:=by simpa using h00
  have hg12:2<W.heap.size∧0<W.heap.size:=hG.2.2;have q:=Sz A ts.length c w1;go_wp2_with fail;refine q.mono ?_;rintro e w2 ⟨rfl,rfl⟩;have BP:=Blk.new w1 142 #[.slice A ts.length c] _ rfl;have hb2:=bAl hb (.cells #[.slice A ts.length c] 142);have BD2:=BD.alloc (.cells #[.slice A ts.length c] 142);clear q;generalize w1.alloc (.cells #[.slice A ts.length c] 142)=w2 at *;have hseq:=KJ w1.heap.size W.heap.size A c ts vs w2 BD2.lt BP (hA.below hb2) (fun k u t hu ht=>(hT k u t hu ht).below hb2) hok h00 hn (hG.below hb2) hg12;generalize ts.map iJ=l0 at *;generalize w1.heap.size=bp at *;clear BP BD hb hA hT hok;go_wp2_with fail
  refine uD 2 (gf:=230) (lb:=#[.pointer (some ⟨bp,0,none⟩)]) rfl (enters_of func230 (by kernel_rfl) rfl) (w0:=w2) hseq KeepsC.trans (fun W l o o' _ hl ho _=>KeepsC.put W l o o' hl ho) (aj _) (fun _=>rfl)
   (fun pre W'=>Below W.heap.size W W'∧Blk W' W.heap.size 29 (ag (headRow l0 pre.length)).toArray)
   (fun x a₁ pre W'=>((Below W.heap.size W W'∧Blk W' W.heap.size 29 (ag (headRow l0 pre.length)).toArray)∧(∃ B,Sl W' B 32 x (jB l0 pre.length).length ((jB l0 pre.length).flatMap ag))∧0<(jB l0 pre.length).length)∧a₁={ tmps:=#[.slice A ts.length c,undef,.pointer (some ⟨W.heap.size,0,none⟩),x,.slice A ts.length c,.int .i64 ts.length,.bool false,undef,.slice A ts.length c,.func (.func 230) #[] #[.pointer (some ⟨bp,0,none⟩)],x,undef,undef,undef,undef],defers:=[] })
   (fun _ _ _=>False)
   (fun pre A' B' row h hg hr=>⟨gz h.1 hg hb2.size hr,h.2.kept hg hr⟩)
   (fun x a pre A' B' row h hg hr=>⟨⟨⟨gz h.1.1.1 hg hb2.size hr,h.1.1.2.kept hg hr⟩,by obtain ⟨B,hS⟩:=h.1.2.1;exact ⟨B,hS.keepsC (KeepsC.of_grown hg hr) (fun _ _=>trivial)⟩,h.1.2.2⟩,h.2⟩)
   (fun _ _ _ _ _ h _ _=>h)
   ⟨hb2,BD2⟩ ?assign ?body ?done ?stop
  case assign =>
   rintro L pre x Wc hI ⟨hS,hp⟩ hlen
   gi_wp2
   exact ⟨KeepsOthers.refl _,KeepsC.refl _ _,⟨hI,⟨_,hS⟩,hp⟩,trivial⟩
  case body =>
   rintro L pre x a₁ Wc ⟨⟨⟨hbc,BDc⟩,⟨B,A2,c2,rfl,hR,hc,hc2,_⟩,hp⟩,rfl⟩ hlen;obtain ⟨b,off,rfl,hbb,hcc⟩:=hR.2 hp
   obtain ⟨d,r,hdr⟩:∃ d r,jB l0 pre.length=d::r:=by
    match hr:jB l0 pre.length with
    | []=>rw [hr] at hp;simp at hp
    | x::r=>exact ⟨x,r,rfl⟩
   have hd:dL d:=zZ hle pre.length d (by rw [hdr];simp);have hld:(ag d).length=32:=(by rw [ai,hd.1]);have hlc:=zl hle hl0 pre.length
   have hrun:=Cf (w:=Wc) (b:=b) (o:=off) hd.1 (fun j u hu=>hcc j u (by
    have hj:j<(ag d).length:=(aag.1 hu).1;rw [hdr,aaF,aaO hj];exact hu))
   have hst:=Ei (P:=prog) (w:=Wc) (ty:=29) (X:=(ag d).toArray) BDc (by rw [aae,hld];exact aW) (by rw [aae,aae,ai,hlc,hld]) (fK _);have hi0:(0:Int)<((jB l0 pre.length).length:Int):=(by omega);have hhd:Hid (headRow l0 (pre.length+1)=d):=(by show (jB l0 pre.length).headD []=d;rw [hdr];rfl);clear hdr hcc hR;generalize (jB l0 pre.length).length=n at *
   gi_upto_region 5 with fail
   apply wpIn_region_lit
   iterate 6 gi_step
   refine Du rfl rfl rfl hrun ?_;refine kZ rfl rfl rfl rfl hst ?_;refine wpListIn_nil ?_;refine ⟨KeepsOthers.of_grownBy (zY7 _ _ _) (fun j o e ho=>by cases e;unfold Blk at BDc;rw [BDc] at ho;cases ho;rfl),⟨by simp,fun k t cs fr hk hcx=>setRow_other _ _ _ _ hk⟩,below_setRow hbc (aad _) _,?_⟩;rw [aan];show Blk _ _ _ (ag (headRow l0 (pre.length+1))).toArray;rw [hhd.out];exact setRow_heap _ _ _ _ _ _ BDc
  case done =>
   rintro D xs Wc hD ⟨k,hk,htop⟩ ⟨hbc,BDc⟩ hd;rw [hk] at BDc;have hX:Hid (uC ts=headRow l0 (k+1)):=(by show _=_;rw [hr.out];exact htop);have hlX:=zl hle hl0 (k+1);generalize headRow l0 (k+1)=X at *;have hD':W.heap.size≤D:=aaj hb2.size hD;go_upto_region 6 with fail;apply wp_region_lit;refine wpList_load_row rfl 29 (.tmp 2) rfl W.heap.size rfl 29 _ (0,0) _ BDc bQ rfl (by rw [aae,ai,hlX];exact aW) ?_;simp only [Act.put,aaf,aai,aah];refine wpList_store_row rfl 29 (.tmp 2) (.tmp 14) rfl W.heap.size (ag X).toArray rfl rfl 29 _ BDc (by rw [aae,ai,hlX];exact aW) rfl (fK _) ?_;have hb9:=below_setRow hbc (aad _) (ag X).toArray
   have hdd:(Wc.setRow W.heap.size (ag X).toArray).heap[D]?=some (.deferred (some [])):=by
    rw [setRow_other _ _ _ _ (by intro e;subst e;unfold Blk at BDc;rw [BDc] at hd;cases hd)];exact hd
   have BD9:Blk (Wc.setRow W.heap.size (ag X).toArray) W.heap.size 29 (ag X).toArray:=setRow_heap Wc W.heap.size _ _ 29 _ BDc;have BD10:=BD9.put (o' := .deferred none) hdd rfl;go_wp2_with fail;refine cZ (by simp) hdd ?_;exact ⟨.agg (ag X).toArray,results_cell_row rfl _ _ W.heap.size 29 _ (0,0) _ rfl BD10 bQ rfl (by rw [aae,ai,hlX];exact aW),by rw [hX.out];rfl,uQ hb9 hD' _⟩
  case stop =>
   rintro D c' pre Wc _ _ h _;exact h.elim
end
end Go.Proofs.YthbibbkbaphpkaaGreatDoor

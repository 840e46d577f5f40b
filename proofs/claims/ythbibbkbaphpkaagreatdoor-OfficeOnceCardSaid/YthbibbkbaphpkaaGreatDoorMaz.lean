/- The reference's guards: few links, a small turn, a small office; bits. -/
import Derived.Test.YthbibbkbaphpkaaGreatDoorMai
import Derived.Test.YthbibbkbaphpkaaGreatDoorMaj
import Derived.Test.YthbibbkbaphpkaaGreatDoorMan
import Derived.Test.YthbibbkbaphpkaaGreatDoorMav
set_option maxHeartbeats 16000000
set_option maxRecDepth 1000000
namespace Go.Proofs.YthbibbkbaphpkaaGreatDoor
open _root_.Go.Proofs.Tryz
open Go.RowKit
def FZ (l:List Lnk):Bool:=decide (l.length≤16)&&l.all (fun x=>decide (x.data.length≤300))
def zM (t:Trn):Bool:=decide (t.left.length≤6)&&(decide (t.right.length≤7)&&(decide (t.rl.length≤7)&&(decide (t.rr.length≤7)&&decide (t.salts.length≤7))))
def PW (n:Nat):Bool:=decide (n≤4)||(decide (64<n)&&decide (n≤80))
def Jd (o:Ofc) (n:Nat) (t:Trn):Bool:=FZ o.chain&&(decide (o.used.length≤40)&&(PW n&&zM t))
def Lnk.okW (x:Lnk):Prop:=inI x.node∧inI x.no∧dL x.prev∧okB x.data
theorem Lnk.cl_lengthW {x:Lnk} {v:Value} (h:x.okW):(x.cl v).length=35:=by
 have:=h.2.2.1.1
 simp [Lnk.cl,ai,this]
def LksW (w:World) (B:Nat) (A:Option Addr) (l:List Lnk) (vs:List Value):Prop :=
 Rd w B 35 A l.length (kP l vs)∧vs.length=l.length∧(∀ (k:Nat) (x:Lnk),l[k]?=some x→∃ Ad cd,vs[k]?=some (Value.slice Ad x.data.length cd)∧Rd w B 1 Ad x.data.length (ag x.data))∧∀ x∈l,x.okW
section
variable {w w':World} {B B':Nat} {A:Option Addr} {l:List Lnk} {vs:List Value}
theorem LksW.strong (h:LksW w B A l vs) (hd:∀ x∈l,x.data.length≤1000000):LksAt w B A l vs:=⟨h.1,h.2.1,h.2.2.1,fun x hx=>by obtain ⟨a,b,c,d⟩:=h.2.2.2 x hx;exact ⟨a,b,c,d,hd x hx⟩⟩
theorem LksW.below (h:LksW w B A l vs) (b:Below B w w'):LksW w' B A l vs :=
 ⟨h.1.below b,h.2.1,fun k x hx=>by obtain ⟨Ad,cd,e,r⟩:=h.2.2.1 k x hx;exact ⟨Ad,cd,e,r.below b⟩,h.2.2.2⟩
theorem LksW.more (h:LksW w B A l vs) (b:B≤B'):LksW w B' A l vs :=
 ⟨h.1.more b,h.2.1,fun k x hx=>by obtain ⟨Ad,cd,e,r⟩:=h.2.2.1 k x hx;exact ⟨Ad,cd,e,r.more b⟩,h.2.2.2⟩
theorem LksW.at_ (h:LksW w B A l vs) {k:Nat} {x:Lnk} (hx:l[k]?=some x):∃ b off Ad cd,A=some ⟨b,off,none⟩∧b<B∧x.okW∧Rd w B 1 Ad x.data.length (ag x.data)∧w.rangeAt b (off+k*35) (x.cl (.slice Ad x.data.length cd)):=by
 have hk:k<l.length:=(aag.1 hx).1;obtain ⟨b,off,e,hb,hc⟩:=h.1.2 (by omega);obtain ⟨Ad,cd,hv,hr⟩:=h.2.2.1 k x hx;have hxo:=h.2.2.2 x (aam hx);refine ⟨b,off,Ad,cd,e,hb,hxo,hr,fun j u hj=>?_⟩;rw [aay];refine hc _ _ ?_;have hj35:j<35:=by have:=(aag.1 hj).1;rwa [Lnk.cl_lengthW hxo] at this
 have hz:(l.zip vs)[k]?=some (x,.slice Ad x.data.length cd):=by rw [List.getElem?_zip_eq_some];exact ⟨hx,hv⟩
 unfold kP;rw [jh (f:=fun p:Lnk×Value=>p.1.cl p.2) (l.zip vs) k j (x,.slice Ad x.data.length cd) (fun p hp=>Lnk.cl_lengthW (h.2.2.2 p.1 (List.of_mem_zip hp).1)) hz hj35];exact hj
end
theorem TP (A:Option Addr) (c:Nat) (l:List Lnk) (vs:List Value) (W:World) (hA:LksW W W.heap.size A l vs) :
  Calls prog 45 #[.slice A l.length c] W (Same (.bool (FZ l)) W):=by
 obtain ⟨v,hv⟩:∃ v,Hid (v=FZ l):=⟨_,aab rfl⟩
 rw [←hv.out];go_enter func45,ntmps45;by_cases h16:l.length≤16
 rotate_left 1
 ·have hv2:Hid (v=false):=by show _=_;rw [hv.out];unfold FZ;rw [decide_eq_false h16];rfl
  have h16':16<l.length:=by omega
  go_wp2_with fail;go_ret;exact ⟨aI hv2.out.symm,rfl⟩
 go_wp2_with fail;go_loop [3] (fun i=>∃ k:Nat,k≤l.length∧i = .int .i64 k∧Hid (∀ y∈l.take k,y.data.length≤300)) (fun i=>l.length - (intOf i).toNat)
 case atStart=>exact ⟨0,aao _,rfl,aab (by simp)⟩
 case round =>
  obtain ⟨k,hkn,rfl,hp⟩:=hrel;by_cases hlt:k<l.length
  ·obtain ⟨x,hx⟩:∃ x,Hid (l[k]?=some x):=⟨_,aab (aac hlt)⟩
   obtain ⟨b,off,Ad,cd,rfl,hbb,hxo,hRd,hrg⟩:=hA.at_ hx.out
   have d3:W.cell? ⟨b,off+k*35+34,none⟩=some (.slice Ad x.data.length cd):=by
    refine hrg 34 _ ?_;unfold Lnk.cl;rw [aaz (by simp),aaz (by rw [ai,hxo.2.2.1.1];simp)];rw [ai,hxo.2.2.1.1];rfl
   have i0:(0:Int)≤(k:Int):=(by omega);have i1:(k:Int)<(l.length:Int):=(by omega);clear hrg;by_cases h3:x.data.length≤300
   ·have hp':Hid (∀ y∈l.take (k+1),y.data.length≤300):=aab (fun y hy=>by
     obtain ⟨hk,e⟩:=aag.1 hx.out;rw [aaB hk] at hy;rcases aaL.1 hy with hy | hy
     ·exact hp.out y hy
     ·obtain rfl:y=l[k]:=by simpa using hy
      rw [e];exact h3)
    go_wp2_with fail;exact ⟨⟨k+1,by omega,by go_num,hp'⟩,by simp [intOf];omega⟩
   ·have hv2:Hid (v=false):=by
     show _=_;rw [hv.out];unfold FZ;rw [abt];exact .inr (abn.2 ⟨x,aam hx.out,by simp [h3]⟩)
    have h3':300<x.data.length:=(by omega);go_wp2_with fail;go_ret;exact ⟨aI hv2.out.symm,rfl⟩
  ·have hv2:Hid (v=true):=by
    show _=_;rw [hv.out];unfold FZ;rw [decide_eq_true h16,aaM,aau];intro y hy;exact decide_eq_true (hp.out y (by rw [aaH (by omega)];exact hy))
   go_wp2_with fail;go_ret;exact ⟨aI hv2.out.symm,rfl⟩
theorem TQ (s:TS) (t:Trn) (W:World):Calls prog 46 #[.agg (s.cl t)] W (Ret (.bool (zM t)) W):=by
 have BT:=Blk.new W 39 (s.cl t) _ rfl;have hb:=bAl (aj W) (.cells (s.cl t) 39);obtain ⟨v,hv⟩:∃ v,Hid (v=zM t):=⟨_,aab rfl⟩
 rw [←hv.out];have hg:∀ b,b=zM t→Hid (v=b):=fun b h=>aab (hv.out.trans h.symm);replace hg:=aab hg;unfold TS.cl at *;have d0:=BT.cell 0;have d1:=BT.cell 1;have d2:=BT.cell 2;have d3:=BT.cell 3;have d4:=BT.cell 4;go_enter func46,ntmps46;go_upto_region 1 with fail;generalize W.alloc (.cells _ 39)=w1 at *;by_cases a0:t.left.length≤6
 rotate_left 1
 ·have hv2:=hg.out false (by unfold zM;rw [decide_eq_false a0];rfl)
  have a':6<t.left.length:=by omega
  go_wp2_with fail;go_ret;exact ⟨aI hv2.out.symm,hb⟩
 by_cases a1:t.right.length≤7
 rotate_left 1
 ·have hv2:=hg.out false (by unfold zM;rw [decide_eq_true a0,decide_eq_false a1];rfl)
  have a':7<t.right.length:=by omega
  go_wp2_with fail;go_ret;exact ⟨aI hv2.out.symm,hb⟩
 by_cases a2:t.rl.length≤7
 rotate_left 1
 ·have hv2:=hg.out false (by unfold zM;rw [decide_eq_true a0,decide_eq_true a1,decide_eq_false a2];rfl)
  have a':7<t.rl.length:=by omega
  go_wp2_with fail;go_ret;exact ⟨aI hv2.out.symm,hb⟩
 by_cases a3:t.rr.length≤7
 rotate_left 1
 ·have hv2:=hg.out false (by unfold zM;rw [decide_eq_true a0,decide_eq_true a1,decide_eq_true a2,decide_eq_false a3];rfl)
  have a':7<t.rr.length:=by omega
  go_wp2_with fail;go_ret;exact ⟨aI hv2.out.symm,hb⟩
 by_cases a4:t.salts.length≤7
 rotate_left 1
 ·have hv2:=hg.out false (by unfold zM;rw [decide_eq_true a0,decide_eq_true a1,decide_eq_true a2,decide_eq_true a3,decide_eq_false a4];rfl)
  have a':7<t.salts.length:=by omega
  go_wp2_with fail;go_ret;exact ⟨aI (by rw [hv2.out];exact decide_eq_false (by omega)),hb⟩
 have hv2:=hg.out true (by unfold zM;rw [decide_eq_true a0,decide_eq_true a1,decide_eq_true a2,decide_eq_true a3,decide_eq_true a4];rfl);go_wp2_with fail;go_ret;exact ⟨aI (by rw [hv2.out];exact decide_eq_true (by omega)),hb⟩
theorem PX (o:Ofc) (A Au A2:Option Addr) (c cu n c2:Nat) (vs:List Value) (s:TS) (t:Trn) (W:World) (hA:LksW W W.heap.size A o.chain vs) :
  Calls prog 10 #[.agg #[.int .i64 o.no,.int .i64 o.secret,.slice A o.chain.length c,.slice Au o.used.length cu],.slice A2 n c2,.agg (s.cl t)] W (Ret (.bool (Jd o n t)) W):=by
 obtain ⟨v,hv⟩:∃ v,Hid (v=Jd o n t):=⟨_,aab rfl⟩
 rw [←hv.out];have hg:∀ b,b=Jd o n t→Hid (v=b):=fun b h=>aab (hv.out.trans h.symm);replace hg:=aab hg;have BO:Blk ((W.alloc (.cells #[.int .i64 o.no,.int .i64 o.secret,.slice A o.chain.length c,.slice Au o.used.length cu] 25)).alloc (.cells (s.cl t) 39)) W.heap.size 25 _:=(Blk.new W _ _ _ rfl).alloc _;have BT:=Blk.new (W.alloc (.cells #[.int .i64 o.no,.int .i64 o.secret,.slice A o.chain.length c,.slice Au o.used.length cu] 25)) 39 (s.cl t) (W.heap.size+1) (by simp);have hb:=bAl (bAl (aj W) (.cells #[.int .i64 o.no,.int .i64 o.secret,.slice A o.chain.length c,.slice Au o.used.length cu] 25)) (.cells (s.cl t) 39);have q1:=TP A c o.chain vs _ ((hA.below hb).more hb.size);have q2:=TQ s t ((W.alloc (.cells #[.int .i64 o.no,.int .i64 o.secret,.slice A o.chain.length c,.slice Au o.used.length cu] 25)).alloc (.cells (s.cl t) 39));unfold TS.cl at *;have c2':=BO.cell 2;have c3':=BO.cell 3;have d0:=BT.cell 0;have d1:=BT.cell 1;have d2:=BT.cell 2;have d3:=BT.cell 3;have d4:=BT.cell 4;have hfo:Hid (Jd o n t=(FZ o.chain&&(decide (o.used.length≤40)&&(PW n&&zM t)))):=aab rfl;generalize FZ o.chain=K at *;generalize zM t=T at *;go_enter func10,ntmps10;go_upto_region 1 with fail;generalize (W.alloc (.cells _ 25)).alloc (.cells _ 39)=w1 at *;cases K
 ·have hv2:=hg.out false (by rw [hfo.out];rfl)
  go_wp2_with fail;refine q1.mono ?_;rintro e w2 ⟨rfl,rfl⟩;go_wp2_with fail;go_ret;exact ⟨aI hv2.out.symm,hb⟩
 by_cases a1:o.used.length≤40
 rotate_left 1
 ·have hv2:=hg.out false (by rw [hfo.out,decide_eq_false a1];rfl)
  have a':40<o.used.length:=by omega
  go_wp2_with fail;refine q1.mono ?_;rintro e w2 ⟨rfl,rfl⟩;go_wp2_with fail;go_ret;exact ⟨aI hv2.out.symm,hb⟩
 by_cases a2:n≤4
 ·have hv2:=hg.out T (by rw [hfo.out,decide_eq_true a1];unfold PW;rw [decide_eq_true a2];rfl)
  go_wp2_with fail;refine q1.mono ?_;rintro e w2 ⟨rfl,rfl⟩;go_wp2_with fail;refine q2.mono ?_;rintro e w2 ⟨rfl,b2⟩;go_wp2_with fail;go_ret;exact ⟨aI hv2.out.symm,ah hb b2⟩
 have a2':4<n:=by omega
 by_cases a3:64<n
 rotate_left 1
 ·have hv2:=hg.out false (by rw [hfo.out,decide_eq_true a1];unfold PW;rw [decide_eq_false a2,decide_eq_false a3];rfl)
  have a':n≤64:=by omega
  go_wp2_with fail;refine q1.mono ?_;rintro e w2 ⟨rfl,rfl⟩;go_wp2_with fail;go_ret;exact ⟨aI hv2.out.symm,hb⟩
 by_cases a4:n≤80
 ·have hv2:=hg.out T (by rw [hfo.out,decide_eq_true a1];unfold PW;rw [decide_eq_false a2,decide_eq_true a3,decide_eq_true a4];rfl)
  go_wp2_with fail;refine q1.mono ?_;rintro e w2 ⟨rfl,rfl⟩;go_wp2_with fail;refine q2.mono ?_;rintro e w2 ⟨rfl,b2⟩;go_wp2_with fail;go_ret;exact ⟨aI (by rw [hv2.out,decide_eq_false (show ¬(n:Int)≤4 by omega),decide_eq_true (show (n:Int)≤80 by omega)];rfl),ah hb b2⟩
 ·have hv2:=hg.out false (by rw [hfo.out,decide_eq_true a1];unfold PW;rw [decide_eq_false a2,decide_eq_true a3,decide_eq_false a4];rfl)
  have a':80<n:=by omega
  go_wp2_with fail;refine q1.mono ?_;rintro e w2 ⟨rfl,rfl⟩;go_wp2_with fail;go_ret;exact ⟨aI hv2.out.symm,hb⟩
theorem Dc:∀ (k:Nat) (x y:List Nat),x.take k=y.take k→k≤x.length→k≤y.length→bef x y=bef (x.drop k) (y.drop k)
 | 0,_,_,_,_,_=>rfl
 | k+1,[],_,_,h,_=>by simp at h
 | k+1,_::_,[],_,_,h=>by simp at h
 | k+1,a::x,b::y,h,h1,h2=>by
  simp only [abq,List.cons.injEq] at h;obtain ⟨rfl,h⟩:=h;show (if a=a then bef x y else decide (a<a))=_;rw [if_pos rfl];exact Dc k x y h (by simpa using h1) (by simpa using h2)
theorem Lu (x y:List Nat) (W:World) (hx:dL x) (hy:dL y) :
  Calls prog 107 #[.agg (ag x).toArray,.agg (ag y).toArray] W (Ret (.bool (bef x y)) W):=by
 have BX:Blk ((W.alloc (.cells (ag x).toArray 29)).alloc (.cells (ag y).toArray 29)) W.heap.size 29 (ag x).toArray:=(Blk.new W _ _ _ rfl).alloc _;have BY:=Blk.new (W.alloc (.cells (ag x).toArray 29)) 29 (ag y).toArray (W.heap.size+1) (by simp);have hb:=bAl (bAl (aj W) (.cells (ag x).toArray 29)) (.cells (ag y).toArray 29);have hcx:Hid (∀ w k (u:Nat),Blk w W.heap.size 29 (ag x).toArray→x[k]?=some u→w.cell? ⟨W.heap.size,k,none⟩=some (.int .u8 (u:Nat))):=aab (fun w k u B h=>(B.cell k).trans (by rw [aaG];simp [ag,h]));have hcy:Hid (∀ w k (u:Nat),Blk w (W.heap.size+1) 29 (ag y).toArray→y[k]?=some u→w.cell? ⟨W.heap.size+1,k,none⟩=some (.int .u8 (u:Nat))):=aab (fun w k u B h=>(B.cell k).trans (by rw [aaG];simp [ag,h]));obtain ⟨v,hv⟩:∃ v,Hid (v=bef x y):=⟨_,aab rfl⟩
 rw [←hv.out];obtain ⟨hx32,-⟩:=hx;obtain ⟨hy32,-⟩:=hy;generalize (ag x).toArray=X at *;generalize (ag y).toArray=Y at *;go_enter func107,ntmps107;go_upto_region 1 with fail;generalize (W.alloc (.cells X 29)).alloc (.cells Y 29)=w1 at *;go_wp2_with fail;go_loopw [5] (fun i wr=>∃ k:Nat,k≤32∧i = .int .i64 k∧Below W.heap.size W wr∧Blk wr W.heap.size 29 X∧Blk wr (W.heap.size+1) 29 Y∧Hid (x.take k=y.take k)) (fun i _=>32 - (intOf i).toNat)
 case atStart=>exact ⟨0,by omega,rfl,hb,BX,BY,aab rfl⟩
 case round =>
  clear hb BX BY;obtain ⟨k,hk,rfl,hb,BX,BY,hp⟩:=hrel;by_cases hlt:k<32
  ·obtain ⟨a,ha⟩:∃ a,Hid (x[k]?=some a):=⟨_,aab (aac (by omega))⟩
   obtain ⟨b,hbq⟩:∃ b,Hid (y[k]?=some b):=⟨_,aab (aac (by omega))⟩
   have d0:=hcx.out wr k a BX ha.out;have d1:=hcy.out wr k b BY hbq.out;have i0:(0:Int)≤(k:Int):=(by omega);have i1:(k:Int)<32:=by omega
   have hdx:Hid (x.drop k=a::x.drop (k+1)):=aab (by
    obtain ⟨h1,h2⟩:=aag.1 ha.out;rw [List.drop_eq_getElem_cons h1,h2])
   have hdy:Hid (y.drop k=b::y.drop (k+1)):=aab (by
    obtain ⟨h1,h2⟩:=aag.1 hbq.out;rw [List.drop_eq_getElem_cons h1,h2])
   by_cases hab:a=b
   ·subst hab
    have hp2:Hid (x.take (k+1)=y.take (k+1)):=aab (by
     obtain ⟨h1,h2⟩:=aag.1 ha.out;obtain ⟨h3,h4⟩:=aag.1 hbq.out;rw [aaB h1,aaB h3,h2,h4,hp.out])
    have hne:((a:Int) != (a:Int))=false:=(by simp);go_upto_region 4 with fail;go_quiet (fail)
    go_wp2_with fail;exact ⟨⟨k+1,by omega,by go_num,o8 hb _,BX,BY,hp2⟩,by simp [intOf];omega⟩
   ·have hv2:Hid (v=decide (a<b)):=by
     show _=_;rw [hv.out,Dc k x y hp.out (by omega) (by omega),hdx.out,hdy.out];show (if a=b then _ else _)=_;rw [if_neg hab]
    have hne:((a:Int) != (b:Int))=true:=(by simp;omega);go_upto_region 4 with fail;go_quiet (fail)
    go_wp2_with fail;go_quiet (fail)
    go_wp2_with fail;go_ret;exact ⟨aI (by rw [hv2.out,decide_eq_decide];try omega),o8 (o8 hb _) _⟩
  ·have hv2:Hid (v=false):=by
    show _=_;rw [hv.out,Dc k x y hp.out (by omega) (by omega),List.drop_of_length_le (by omega),List.drop_of_length_le (by omega)];rfl
   go_wp2_with fail;go_ret;exact ⟨aI hv2.out.symm,hb⟩
theorem TR (A:Option Addr) (c:Nat) (l:List (List Nat)) (W:World) (hA:Rd W W.heap.size 32 A l.length (l.flatMap ag)) (hok:∀ x∈l,dL x) (hr:Dw l=true) (hn:l.length≤1000000) :
  Calls prog 29 #[.slice A l.length c] W (Ret (.bool true) W):=by
 have hr2:=aab (xy.1 hr);clear hr;go_enter func29,ntmps29;go_wp2_with fail;go_loopw [3] (fun i wr=>∃ k:Nat,k+1≤l.length+1∧i = .int .i64 ((k:Nat)+1:Int)∧Below W.heap.size W wr) (fun i _=>l.length - (intOf i).toNat)
 case atStart=>exact ⟨0,by omega,rfl,aj W⟩
 case round =>
  obtain ⟨m,hkn,rfl,hb⟩:=hrel;by_cases hlt:m+1<l.length
  ·obtain ⟨x,hx⟩:∃ x,l[m]?=some x:=⟨_,aac (by omega)⟩
   obtain ⟨y,hy⟩:∃ y,l[m+1]?=some y:=⟨_,aac hlt⟩
   have hxo:=hok x (aam hx);have hyo:=hok y (aam hy)
   have hbf:bef x y=true:=by
    obtain ⟨p1,e1⟩:=aag.1 hx;obtain ⟨p2,e2⟩:=aag.1 hy
    have:=abp.1 hr2.out m (m+1) p1 p2 (by omega)
    rwa [e1,e2] at this
   obtain ⟨b1,o1,rfl,l1,k1⟩:=zf (hA.below hb) hok (by omega) hx;obtain ⟨b2,o2,e2,l2,k2⟩:=zf (hA.below hb) hok hlt hy;injection e2 with e2
   injection e2 with e2 e3
   subst e2;subst e3;have hbz:=hb.size
   have q:Hid (∀ w',Calls prog 107 #[.agg (ag x).toArray,.agg (ag y).toArray] w' (Ret (.bool true) w')):=aab (fun w'=>by
    have:=Lu x y w' hxo hyo
    rwa [hbf] at this)
   have KS:Hid (∀ w',Below wr.heap.size wr w'→((Instr.loadAt 29 (.pointer (some ⟨b1,o1+m*32,none⟩))).run prog w' = .ok (.agg (ag x).toArray) w'∧(Instr.loadAt 29 (.pointer (some ⟨b1,o1+(m+1)*32,none⟩))).run prog w' = .ok (.agg (ag y).toArray) w')) :=
    aab (fun w' h=>⟨fF (fun j u hj=>(h.cell (p:=⟨b1,o1+m*32+j,none⟩) (by show b1<_;omega)).trans (k1 j u hj)) hxo.1,fF (fun j u hj=>(h.cell (p:=⟨b1,o1+(m+1)*32+j,none⟩) (by show b1<_;omega)).trans (k2 j u hj)) hyo.1⟩)
   have m1:(0:Int)≤(m:Int):=(by omega);have m2:(m:Int)<(l.length:Int):=(by omega);have m3:IntKind.i64.wrap (m:Int)=(m:Int):=(by rw [IntKind.wrap_i64];omega);have m4:(0:Int)≤(m:Int)+1:=(by omega);have m5:(m:Int)+1<(l.length:Int):=(by omega);have m6:((m:Int)+1).toNat=m+1:=(by omega);have m7:IntKind.i64.wrap ((m:Int)+1+1)=(m:Int)+1+1:=(by rw [IntKind.wrap_i64];omega);generalize (ag x).toArray=X at *;generalize (ag y).toArray=Y at *;clear k1 k2 hx hy hbf;go_upto_region 4 with fail;refine aK (f:=10) KS [(0,1),(1,1),(2,1),(3,1),(4,2),(5,1),(6,1),(7,1),(8,2),(9,0),(10,3)] ?_;simp only [bf,aap,aar]
   iterate 4 refine ak ?_
   refine ax (v:=?vq1) (hv:=?hq1) ?_;case hq1=>(intro w hSw;(first | refine (af rfl rfl hSw).trans ?_ | refine (af rfl rfl hSw.1).trans ?_ | refine (af rfl rfl hSw.2.1).trans ?_ | refine (af rfl rfl hSw.2.2.1).trans ?_ | refine (af rfl rfl hSw.2).trans ?_ | refine (af rfl rfl hSw.2.2).trans ?_);with_reducible rfl)
   iterate 3 refine ak ?_
   refine ax (v:=?vq2) (hv:=?hq2) ?_;case hq2=>(intro w hSw;(first | refine (af rfl rfl hSw).trans ?_ | refine (af rfl rfl hSw.1).trans ?_ | refine (af rfl rfl hSw.2.1).trans ?_ | refine (af rfl rfl hSw.2.2.1).trans ?_ | refine (af rfl rfl hSw.2).trans ?_ | refine (af rfl rfl hSw.2.2).trans ?_);with_reducible rfl)
   refine au (fun K hK=>?_);go_simp;(first | (go_at_call 107;(with_reducible refine (q.out _).mono ?_);rintro e w6 ⟨rfl,b6⟩;have B6:Below wr.heap.size wr w6:=ah (bDr (aj _)) b6) | skip);refine aH hK KS ?_;clear hK K;refine aN ?_
   first | simp only [aak] | simp only [aat,aak]
   replace hb:=ah hb B6;clear KS q B6 b6;go_wp2_with fail;refine NoPanic.normal ?_;go_wp2_with fail;exact ⟨⟨m+1,by omega,by go_num,hb⟩,by simp [intOf];omega⟩
  ·have m5:¬(m:Int)+1<(l.length:Int):=by omega
   go_wp2_with fail;go_ret;exact ⟨rfl,hb⟩
theorem Df {k u:Nat} (h:u<128):qA k u=[u]:=by
 cases k with
 | zero=>show [u % 256]=[u];rw [aaR (by omega)]
 | succ k=>show (if u<128 then [u] else _)=[u];rw [if_pos h]
theorem TT {k u:Nat} (h:128≤u):qA (k+1) u=(u % 128+128)::qA k (u / 128):=by
 show (if u<128 then [u] else _)=_;rw [if_neg (by omega)]
theorem xH {P:Program} {ops:Array Oper} {o:Oper} {a:Act} {w:World} {K:Act→World→Prop} {Q:Exit→Act→World→Prop} {E:Prop}
  (hgd:o.guard=none) (s x:Operand) (t:TypeId) (ho:o.op = .call { callee := .builtin .append,args:=#[s,x],argTypes:=#[t,t] })
  (base:Nat) (e:TypeId) (z:Value) (size bytes:Nat) (ht:P.underlying t=some (.slice e)) (hinfo:(P.info? e).map (fun i=>(i.zero,i.size,i.bytes))=some (some z,size,bytes)) (hzs:z.cells.size=size) (hsz:0<size)
  (v:Value) (n:Nat) (xs:List Value) (hs:a.eval s=v) (hown:w.ownsRow base e size v n xs) (A:Option Addr) (B m c:Nat) (news:List Value) (hx:a.eval x = .slice A m c) (hr:Rd w B size A m news) (hm:0<m)
  (h1:∀ u∈news,u.oneCell'=true) (h63:n+m≤maxLen) (hbytes:(n+m)*bytes≤140737488355328) (hbase:base≤w.heap.size)
  (hK:∀ v' w',w'.ownsRow base e size v' (n+m) (xs++news)→Grew w w' v v'→K (a.put o.dst v') w') :
  if Region.wanted o (yielded ops a.tmps)=true then Oper.wp P o a w K Q else E:=by
 obtain ⟨i0,hi,hz0,hz1,hz2⟩:=info_parts hinfo;obtain ⟨b,off,rfl,_,hc⟩:=hr.2 hm;refine step_append_lies w hgd s x t ho base e i0 z size bytes ht hi hz0 hz1 hz2 hzs hsz v n xs hs hown ⟨b,off,none⟩ m c news hx hr.1 ?_ h1 hm h63 hbytes hbase _ rfl ?_
 ·intro j u hu
  rw [dX];exact hc j u hu
 ·intro g' cap w' hown' hgrow hat _
  refine hK _ w' hown' ⟨hgrow,?_⟩;rcases hat with h | h
  ·exact .inl h.symm
  ·exact .inr ⟨g',rfl,by omega⟩
theorem TU:∀ (k u:Nat) (W:World),u<18446744073709551616→u<128 ^ (k+1)→k≤10→Calls prog 241 #[.int .u64 u] W (kL 1 (qA k u).length (ag (qA k u)) W):=by
 intro k;induction k with
 | zero =>
  intro u W h1 h2 _;have hlt:u<128:=by simpa using h2
  have hs:=aab (Df (k:=0) hlt);clear h2;go_enter func241,ntmps241;go_wp2_with fail;go_ret;refine ⟨_,rfl,bAl (aj W) _,?_⟩;rw [hs.out];exact Sl.of_own (base:=W.heap.size) (World.ownsRow_lit W #[.int .u8 (u:Int)] 1 (aad _) (by unfold maxLen;omega) rfl)
 | succ k ih =>
  intro u W h1 h2 hk;by_cases hlt:u<128
  ·have hs:=aab (Df (k:=k+1) hlt)
   clear ih h2;go_enter func241,ntmps241;go_wp2_with fail;go_ret;refine ⟨_,rfl,bAl (aj W) _,?_⟩;rw [hs.out];exact Sl.of_own (base:=W.heap.size) (World.ownsRow_lit W #[.int .u8 (u:Int)] 1 (aad _) (by unfold maxLen;omega) rfl)
  ·have hge:128≤u:=by omega
   have hs:=aab (TT (k:=k) hge);have hq:=fun w=>ih (u / 128) w (by omega) (by rw [abf] at h2;omega) (by omega);rw [show ((u / 128:Nat):Int)=(u:Int) / 128 by omega] at hq;have hl:=(fP k (u / 128)).2;have hm:Hid (((u % 128+128:Nat):Int)=(u:Int) % 128+128):=(by show _=_;omega);obtain ⟨L,hL⟩:∃ L,Hid (L=qA k (u / 128)):=⟨_,aab rfl⟩
   rw [←hL.out] at hq hl;clear ih h2 hlt;go_enter func241,ntmps241;go_wp2_with fail;refine (hq _).mono ?_;rintro e w2 ⟨v2,rfl,b2,A2,c2,rfl,hR,hc2,_,hnil⟩;have hown:=aC (World.ownsRow_lit (base:=W.heap.size) (e:=5) (size:=1) W #[.int .u8 ((u:Int) % 128+128)] 1 (aad _) (by unfold maxLen;omega) rfl) b2;have hb2:=ah (bAl (aj W) _) b2;have hone:∀ q∈ag L,q.oneCell'=true:=aZ;have h63:1+L.length≤maxLen:=(by unfold maxLen;omega);have hby:(1+L.length)*1≤140737488355328:=(by omega);have hbs:=hb2.size;clear b2 hq;go_wp2_with (at_builtin;refine bT (.tmp 12) (.tmp 15) 83 W.heap.size 5 (.int .u8 0) 1 1 _ 1 _ A2 L.length c2 w2.heap.size (ag L) rfl rfl underlying83 bG rfl (by omega) rfl hown rfl hR hnil hone h63 hby hbs ?_;intro v' w' hown4 hg4)
   go_ret;refine ⟨_,rfl,hb2.trans (hg4.below hown hbs),?_⟩;have hX:=Sl.of_own hown4;rw [hs.out,←hL.out]
   have e:ag ((u % 128+128)::L)=[Value.int .u8 ((u:Int) % 128+128)]++ag L:=by
    show Value.int .u8 ((u % 128+128:Nat):Int)::ag L=_;rw [hm.out];rfl
   rw [e,aas,Nat.add_comm];exact hX
theorem tq (u:Nat) (W:World) (h:u<18446744073709551616):Calls prog 241 #[.int .u64 u] W (kL 1 (iV u).length (ag (iV u)) W) :=
 TU 10 u W h (aaS h (by decide)) (aad _)
theorem F5 (n:Int) (w:World) (h0:-9223372036854775808≤n) (h1:n≤9223372036854775807) :
  Calls prog 242 #[.int .i64 n] w (Same (.int .u64 (mQ n:Nat)) w):=by
 by_cases hn:0≤n
 ·have e:Hid (((mQ n:Nat):Int)=2*n):=by show _=_;unfold mQ;rw [if_pos hn];omega
  go_enter func242,ntmps242;go_wp2
  go_ret;exact ⟨eX e.out.symm,rfl⟩
 ·have e:Hid (((mQ n:Nat):Int)=2 * (-(n+1))+1):=by show _=_;unfold mQ;rw [if_neg hn];omega
  have hw1:IntKind.i64.wrap (n+1)=n+1:=by rw [IntKind.wrap_i64];omega
  have hw2:IntKind.i64.wrap (-(n+1)) = -(n+1):=by rw [IntKind.wrap_i64];omega
  have hw3:IntKind.u64.wrap (-(n+1)) = -(n+1):=by rw [IntKind.wrap_u64];omega
  have hw4:IntKind.u64.wrap (2 * -(n+1))=2 * -(n+1):=by rw [IntKind.wrap_u64];omega
  have hw5:IntKind.u64.wrap (2 * -(n+1)+1)=2 * -(n+1)+1:=by rw [IntKind.wrap_u64];omega
  go_enter func242,ntmps242;go_wp2
  go_ret;exact ⟨eX e.out.symm,rfl⟩
theorem F6 (x:It) (w:World):Calls prog 239 #[x.agg] w (Ret (.bool true) w):=by
 cases x with
 | int n =>
  show Calls _ _ #[.agg #[.int .i64 1,.int .i64 n,.string ⟨#[]⟩,.slice none 0 0]] w _;go_enter func239,ntmps239;go_wp2_with fail
  all_goals
   go_ret;exact ⟨rfl,bAl (aj _) _⟩
 | text s =>
  show Calls _ _ #[.agg #[.int .i64 2,.int .i64 0,.string s,.slice none 0 0]] w _;go_enter func239,ntmps239;go_wp2_with fail
  all_goals
   go_ret;exact ⟨rfl,bAl (aj _) _⟩
theorem Dh (x:It) (w:World):Calls prog 240 #[x.agg] w (Ret (.int .i64 0) w):=by
 cases x with
 | int n =>
  show Calls _ _ #[.agg #[.int .i64 1,.int .i64 n,.string ⟨#[]⟩,.slice none 0 0]] w _;go_enter func240,ntmps240;go_wp2_with fail
  all_goals
   go_ret;exact ⟨rfl,bAl (aj _) _⟩
 | text s =>
  show Calls _ _ #[.agg #[.int .i64 2,.int .i64 0,.string s,.slice none 0 0]] w _;go_enter func240,ntmps240;go_wp2_with fail
  all_goals
   go_ret;exact ⟨rfl,bAl (aj _) _⟩
theorem It.four (x:It):∃ y0 y1 y2 y3,x.cells=[y0,y1,y2,y3]∧x.agg = .agg #[y0,y1,y2,y3]:=by cases x <;> exact ⟨_,_,_,_,rfl,rfl⟩
theorem It.fourc {x:It} {y0 y1 y2 y3:Value} {w:World} {b o:Nat} (hx:x.cells=[y0,y1,y2,y3]) (h:∀ j u,x.cells[j]?=some u→w.cell? ⟨b,o+j,none⟩=some u) :
  w.cell? ⟨b,o,none⟩=some y0∧w.cell? ⟨b,o+1,none⟩=some y1∧w.cell? ⟨b,o+2,none⟩=some y2∧w.cell? ⟨b,o+3,none⟩=some y3:=by
 rw [hx] at h;exact ⟨h 0 _ rfl,h 1 _ rfl,h 2 _ rfl,h 3 _ rfl⟩
theorem F7 (A:Option Addr) (n c:Nat) (l:List It) (W:World) (hA:Rd W W.heap.size 4 A n (l.flatMap It.cells)) (hn:n≤1000000) :
  Calls prog 239 #[gJ A n c] W (Ret (.bool true) W):=by
 have hl:Hid (l.length=n):=by have:=hA.1;rw [lW It.cells_length] at this;show _=_;omega
 unfold gJ;have BX:=Blk.new W 169 #[.int .i64 3,.int .i64 0,.string ⟨#[]⟩,.slice A n c] _ rfl;have hb:=bAl (aj W) (.cells #[.int .i64 3,.int .i64 0,.string ⟨#[]⟩,.slice A n c] 169);go_enter func239,ntmps239;go_upto_region 1 with fail;generalize W.alloc (.cells #[.int .i64 3,.int .i64 0,.string ⟨#[]⟩,.slice A n c] 169)=w1 at *;obtain ⟨m0,m1,m2,m3⟩:=dY BX;go_wp2_with fail;go_loopw [3] (fun i wr=>∃ k:Nat,k≤n∧i = .int .i64 k∧Below W.heap.size W wr∧Blk wr W.heap.size 169 #[.int .i64 3,.int .i64 0,.string ⟨#[]⟩,.slice A n c]) (fun i _=>n - (intOf i).toNat)
 case atStart=>exact ⟨0,aao _,rfl,hb,BX⟩
 case round =>
  clear hb BX m0 m1 m2 m3;obtain ⟨k,hk,rfl,hb,BX⟩:=hrel;obtain ⟨m0,m1,m2,m3⟩:=dY BX;by_cases hlt:k<n
  ·obtain ⟨x,hx⟩:∃ x,Hid (l[k]?=some x):=⟨_,aab (aac (by rw [hl.out];exact hlt))⟩
   obtain ⟨b,off,rfl,hbb,hc⟩:=Gy (hA.below hb) hlt hx.out;obtain ⟨y0,y1,y2,y3,hx1,hx2⟩:=x.four;obtain ⟨c0,c1,c2,c3⟩:=It.fourc hx1 hc;have q:=fun w=>F6 x w;rw [hx2] at q;clear hc hx1 hx2 hx;go_wp2_with fail
   with_reducible refine (q _).mono ?_
   rintro e w2 ⟨rfl,b2⟩;have hb2:=ah hb b2;have BX2:=BX.below b2 BX.lt;clear hb b2 q BX;go_wp2_with fail;go_roundw
   case rel=>exact ⟨k+1,by omega,by go_num,hb2,BX2⟩
   case measure=>simp [intOf];omega
  ·go_wp2_with fail
   go_ret;exact ⟨rfl,hb⟩
theorem Di (A:Option Addr) (n c:Nat) (l:List It) (W:World) (hA:Rd W W.heap.size 4 A n (l.flatMap It.cells)) (hn:n≤1000000) :
  Calls prog 240 #[gJ A n c] W (Ret (.int .i64 1) W):=by
 have hl:Hid (l.length=n):=by have:=hA.1;rw [lW It.cells_length] at this;show _=_;omega
 unfold gJ;have BX:=Blk.new W 169 #[.int .i64 3,.int .i64 0,.string ⟨#[]⟩,.slice A n c] _ rfl;have hb:=bAl (aj W) (.cells #[.int .i64 3,.int .i64 0,.string ⟨#[]⟩,.slice A n c] 169);go_enter func240,ntmps240;go_upto_region 1 with fail;generalize W.alloc (.cells #[.int .i64 3,.int .i64 0,.string ⟨#[]⟩,.slice A n c] 169)=w1 at *;obtain ⟨m0,m1,m2,m3⟩:=dY BX;go_wp2_with fail;go_loopw [3,4] (fun d i wr=>∃ k:Nat,k≤n∧i = .int .i64 k∧d = .int .i64 0∧Below W.heap.size W wr∧Blk wr W.heap.size 169 #[.int .i64 3,.int .i64 0,.string ⟨#[]⟩,.slice A n c]) (fun _ i _=>n - (intOf i).toNat)
 case atStart=>exact ⟨0,aao _,rfl,rfl,hb,BX⟩
 case round =>
  clear hb BX m0 m1 m2 m3;obtain ⟨k,hk,rfl,rfl,hb,BX⟩:=hrel;obtain ⟨m0,m1,m2,m3⟩:=dY BX;by_cases hlt:k<n
  ·obtain ⟨x,hx⟩:∃ x,Hid (l[k]?=some x):=⟨_,aab (aac (by rw [hl.out];exact hlt))⟩
   obtain ⟨b,off,rfl,hbb,hc⟩:=Gy (hA.below hb) hlt hx.out;obtain ⟨y0,y1,y2,y3,hx1,hx2⟩:=x.four;obtain ⟨c0,c1,c2,c3⟩:=It.fourc hx1 hc;have q:=fun w=>Dh x w;rw [hx2] at q;clear hc hx1 hx2 hx;go_wp2_with fail
   with_reducible refine (q _).mono ?_
   rintro e w2 ⟨rfl,b2⟩;have hb2:=ah hb b2;have BX2:=BX.below b2 BX.lt;clear hb b2 q BX;go_wp2_with fail;go_roundw
   case rel=>exact ⟨k+1,by omega,by go_num,rfl,hb2,BX2⟩
   case measure=>simp [intOf];omega
  ·go_wp2_with fail
   go_ret;exact ⟨rfl,hb⟩
theorem X3 (A:Option Addr) (n c:Nat) (l:List It) (W:World) (hA:Rd W W.heap.size 4 A n (l.flatMap It.cells)) (hn:n≤1000000) :
  Calls prog 191 #[gJ A n c] W (Ret (.int .i64 0) W):=by
 have hA2:=(hA.alloc (aad _) (.cells #[.int .i64 3,.int .i64 0,.string ⟨#[]⟩,.slice A n c] 169)).more (B':=(W.alloc (.cells #[.int .i64 3,.int .i64 0,.string ⟨#[]⟩,.slice A n c] 169)).heap.size) (by simp);have BX:=Blk.new W 169 #[.int .i64 3,.int .i64 0,.string ⟨#[]⟩,.slice A n c] _ rfl;have hb:=bAl (aj W) (.cells #[.int .i64 3,.int .i64 0,.string ⟨#[]⟩,.slice A n c] 169);unfold gJ;go_enter func191,ntmps191;go_upto_region 1 with fail;generalize W.alloc (.cells #[.int .i64 3,.int .i64 0,.string ⟨#[]⟩,.slice A n c] 169)=w1 at *;have q:=F7 A n c l w1 hA2 hn;obtain ⟨m0,m1,m2,m3⟩:=dY BX;unfold gJ at q;go_wp2_with fail
 with_reducible refine q.mono ?_
 rintro e w2 ⟨rfl,b2⟩;have hb2:=ah hb b2;have BX2:=BX.below b2 BX.lt;have q2:=Di A n c l w2 ((hA2.below b2).more b2.size) hn;unfold gJ at q2;clear q hb b2 BX m0 m1 m2 m3;obtain ⟨m0,m1,m2,m3⟩:=dY BX2;go_wp2_with fail
 with_reducible refine q2.mono ?_
 rintro e w3 ⟨rfl,b3⟩;have hb3:=ah hb2 b3;go_wp2_with fail;go_ret;exact ⟨rfl,hb3⟩
theorem Jg (m:Int) (W:World) (hm:(It.int m).ok) :
  Calls prog 192 #[.agg #[.int .i64 1,.int .i64 m,.string ⟨#[]⟩,.slice none 0 0]] W (kL 1 (It.int m).enc.length (ag (It.int m).enc) W):=by
 obtain ⟨m0,m1⟩:=hm;have hun:=MH m0 m1;have hl:=(fP 10 (mQ m)).2;have q1:=fun w=>F5 m w m0 m1;have q2:=fun w=>tq (mQ m) w hun;obtain ⟨L,hL⟩:∃ L,Hid (L=iV (mQ m)):=⟨_,aab rfl⟩
 rw [←hL.out] at q2;have hl2:L.length≤11:=by rw [hL.out];exact hl
 generalize mQ m=u at q1 q2 hun;have BX:=Blk.new W 169 #[.int .i64 1,.int .i64 m,.string ⟨#[]⟩,.slice none 0 0] _ rfl;have hb:=bAl (aj W) (.cells #[.int .i64 1,.int .i64 m,.string ⟨#[]⟩,.slice none 0 0] 169);have hown0:=World.ownsRow_lit (base:=W.heap.size) (e:=5) (size:=1) (W.alloc (.cells #[.int .i64 1,.int .i64 m,.string ⟨#[]⟩,.slice none 0 0] 169)) #[.int .u8 1] 1 hb.size (by unfold maxLen;omega) rfl;clear hl;go_enter func192,ntmps192;go_upto_region 1 with fail;generalize W.alloc (.cells #[.int .i64 1,.int .i64 m,.string ⟨#[]⟩,.slice none 0 0] 169)=w1 at *;obtain ⟨k0,k1,k2,k3⟩:=dY BX;obtain ⟨j0,j1,j2,j3⟩:=dY (BX.alloc (.cells #[.int .u8 1] 5));go_wp2_with fail
 with_reducible refine (q1 _).mono ?_
 rintro e w2 ⟨rfl,rfl⟩;go_wp2_with fail
 with_reducible refine (q2 _).mono ?_
 rintro e w3 ⟨v2,rfl,b3,A2,c2,rfl,hR,hc2,_,hnil⟩;have hown:=aC hown0 b3;have hb3:=ah (bAl hb _) b3;have hone:∀ q∈ag L,q.oneCell'=true:=aZ;have h63:1+L.length≤maxLen:=by unfold maxLen;omega
 have hby:(1+L.length)*1≤140737488355328:=by omega
 have hbs:=hb3.size;clear b3 q1 q2 hown0 k0 k1 k2 k3 BX hb;go_wp2_with (at_builtin;refine bT (.tmp 9) (.tmp 13) 83 W.heap.size 5 (.int .u8 0) 1 1 _ 1 _ A2 L.length c2 w3.heap.size (ag L) rfl rfl underlying83 bG rfl (by omega) rfl hown rfl hR hnil hone h63 hby hbs ?_;intro v' w' hown4 hg4)
 go_ret;refine ⟨_,rfl,hb3.trans (hg4.below hown hbs),?_⟩;have hX:=Sl.of_own hown4;have e:(It.int m).enc=1::L:=by rw [hL.out];rfl
 rw [e,aas,Nat.add_comm];exact hX
theorem F8 (s:ByteArray) (W:World) (hm:(It.text s).ok) :
  Calls prog 192 #[.agg #[.int .i64 2,.int .i64 0,.string s,.slice none 0 0]] W (kL 1 (It.text s).enc.length (ag (It.text s).enc) W):=by
 have hm':s.size≤1000000:=hm;have hl:=fP 10 s.size;have q2:=fun w=>tq s.size w (by omega);obtain ⟨L,hL⟩:∃ L,Hid (L=iV s.size):=⟨_,aab rfl⟩
 rw [←hL.out] at q2;have hl2:L.length≤11:=by rw [hL.out];exact hl.2
 have hl0:0<L.length:=by rw [hL.out];exact hl.1
 have hW:Hid (IntKind.u64.wrap (s.size:Int)=(s.size:Int)):=by show _=_;rw [IntKind.wrap_u64];omega
 have BX:=Blk.new W 169 #[.int .i64 2,.int .i64 0,.string s,.slice none 0 0] _ rfl;have hb:=bAl (aj W) (.cells #[.int .i64 2,.int .i64 0,.string s,.slice none 0 0] 169);clear hl hm;go_enter func192,ntmps192;go_upto_region 1 with fail;generalize W.alloc (.cells #[.int .i64 2,.int .i64 0,.string s,.slice none 0 0] 169)=w1 at *;obtain ⟨k0,k1,k2,k3⟩:=dY BX;have hbs:=hb.size;have hone:∀ q∈ag L,q.oneCell'=true:=aZ;have h63:1+L.length≤maxLen:=by unfold maxLen;omega
 have hby:(1+L.length)*1≤140737488355328:=by omega
 go_upto_region 5 with fail;have hml:1≤maxLen:=by unfold maxLen;omega
 have hO1:(w1.drew.alloc (.cells #[.int .u8 2] 5)).ownsRow W.heap.size 5 1 (.slice (some ⟨w1.heap.size,0,none⟩) 1 1) 1 [.int .u8 2]:=World.ownsRow_lit w1.drew #[.int .u8 2] 1 hbs hml rfl;have hO2:∀ w5:World,W.heap.size≤w5.heap.size→(w5.alloc (.cells #[.int .u8 2] 5)).ownsRow W.heap.size 5 1 (.slice (some ⟨w5.heap.size,0,none⟩) 1 1) 1 [.int .u8 2]:=fun w5 h=>World.ownsRow_lit w5 #[.int .u8 2] 1 h hml rfl
 go_region_held3 (fun w'=>w'.cell? ⟨W.heap.size,2,none⟩=some (.string s))
  (first | exact BX7.cell 2 | exact BX6.cell 2 | exact BX5.cell 2 | exact (BX5.alloc _).cell 2 | exact BX.cell 2 | exact (BX.below (by repeat (first | exact aj _ | refine bAl ?_ _ | refine bDr ?_)) BX.lt).cell 2)
  (first
  | (refine xH rfl (.tmp 17) (.tmp 22) 83 rfl W.heap.size 5 (.int .u8 0) 1 1 underlying83 bG (by rfl) (by omega) _ 1 [.int .u8 2] (by rfl) (aC hO1 b5) A5 w5.heap.size L.length c5 (ag L) (by rfl) hR5 hl0 hone h63 hby (ah (bAl (bDr hb) _) b5).size ?_
     intro v6 w6 hown6 hg6;have B6:Below W.heap.size W w6:=(ah (bAl (bDr hb) _) b5).trans (hg6.below (aC hO1 b5) (ah (bAl (bDr hb) _) b5).size);have BX6:Blk w6 W.heap.size 169 #[.int .i64 2,.int .i64 0,.string s,.slice none 0 0]:=hg6.blk (aC hO1 b5) BX5 (by decide))
  | (refine xH rfl (.tmp 17) (.tmp 22) 83 rfl W.heap.size 5 (.int .u8 0) 1 1 underlying83 bG (by rfl) (by omega) _ 1 [.int .u8 2] (by rfl) (hO2 w5 (ah (bDr hb) b5).size) A5 w5.heap.size L.length c5 (ag L) (by rfl) (hR5.alloc (aad _) _) hl0 hone h63 hby (bAl (ah (bDr hb) b5) _).size ?_
     intro v6 w6 hown6 hg6;have B6:Below W.heap.size W w6:=(bAl (ah (bDr hb) b5) _).trans (hg6.below (hO2 w5 (ah (bDr hb) b5).size) (bAl (ah (bDr hb) b5) _).size);have BX6:Blk w6 W.heap.size 169 #[.int .i64 2,.int .i64 0,.string s,.slice none 0 0]:=hg6.blk (hO2 w5 (ah (bDr hb) b5).size) (BX5.alloc _) (by decide))
  | (refine qO rfl (.tmp 23) (.tmp 25) 83 9 rfl W.heap.size 5 underlying83 underlying9 bG v6 (1 + L.length) _ (by rfl) hown6 s (by rfl) (by unfold maxLen; omega) (by omega) B6.size ?_
     intro v7 w7 hown7 hg7;have BX7:=hg7.blk hown6 BX6 (by decide);have B7:Below W.heap.size W w7:=B6.trans (hg7.below hown6 B6.size))
  | (go_simp;go_at_call 241;rw [hW.out];(with_reducible refine (q2 _).mono ?_);rintro e w5 ⟨v5,rfl,b5,A5,c5,rfl,hR5,_,_,_⟩;have BX5:Blk w5 W.heap.size 169 #[.int .i64 2,.int .i64 0,.string s,.slice none 0 0]:=(BX.below (by repeat (first | exact aj _ | refine bAl ?_ _ | refine bDr ?_)) BX.lt).below b5 (by have:=BX.lt;simp <;> omega)))
 all_goals
  go_wp2_with fail;go_ret;refine ⟨_,rfl,B7,?_⟩;have hX:=Sl.of_own hown7;have e:(It.text s).enc=2::(L++sb s):=by rw [hL.out];rfl
  rw [e,aas,aan,uN];rw [uq] at hX;have e2:(L.length+s.size+1)=1+L.length+s.size:=by omega
  rw [e2];simpa [ag] using hX
theorem X4 (x:It) (W:World) (hm:x.ok):Calls prog 192 #[x.agg] W (kL 1 x.enc.length (ag x.enc) W):=by
 cases x with
 | int m=>exact Jg m W hm
 | text s=>exact F8 s W hm
theorem F9 (A:Option Addr) (n c:Nat) (l:List It) (W:World) (hA:Rd W W.heap.size 4 A n (l.flatMap It.cells)) (hok:∀ x∈l,x.ok) (hn:n≤1000) :
  Calls prog 192 #[gJ A n c] W (fun r w'=>∃ v,r = .returned v∧Below W.heap.size W w'∧w'.ownsRow W.heap.size 5 1 v (bZ l).length (ag (bZ l))):=by
 obtain rfl:l.length=n:=by have:=hA.1;rw [lW It.cells_length] at this;omega
 unfold gJ;have hl:=fP 10 l.length;have q2:=fun w=>tq l.length w (by omega);obtain ⟨L,hL⟩:∃ L,Hid (L=iV l.length):=⟨_,aab rfl⟩
 rw [←hL.out] at q2;have hl2:L.length≤11:=by rw [hL.out];exact hl.2
 have hWU:Hid (IntKind.u64.wrap (l.length:Int)=(l.length:Int)):=by show _=_;rw [IntKind.wrap_u64];omega
 have BX:=Blk.new W 169 #[.int .i64 3,.int .i64 0,.string ⟨#[]⟩,.slice A l.length c] _ rfl;have hb:=bAl (aj W) (.cells #[.int .i64 3,.int .i64 0,.string ⟨#[]⟩,.slice A l.length c] 169);clear hl;go_enter func192,ntmps192;go_upto_region 1 with fail;generalize W.alloc (.cells #[.int .i64 3,.int .i64 0,.string ⟨#[]⟩,.slice A l.length c] 169)=w1 at *;obtain ⟨k0,k1,k2,k3⟩:=dY BX;obtain ⟨j0,j1,j2,j3⟩:=dY (BX.alloc (.cells #[.int .u8 3] 5));have hown0:=World.ownsRow_lit (base:=W.heap.size) (e:=5) (size:=1) w1 #[.int .u8 3] 1 hb.size (by unfold maxLen;omega) rfl;go_wp2_with fail
 with_reducible refine (q2 _).mono ?_
 rintro e w3 ⟨v2,rfl,b3,A2,c2,rfl,hR,hc2,_,hnil⟩;have hown:=aC hown0 b3;have hb3:=ah (bAl hb _) b3;have BX3:=(BX.alloc (.cells #[.int .u8 3] 5)).below b3 (BX.alloc (.cells #[.int .u8 3] 5)).lt;have hone:∀ q∈ag L,q.oneCell'=true:=aZ;have h63:1+L.length≤maxLen:=by unfold maxLen;omega
 have hby:(1+L.length)*1≤140737488355328:=by omega
 have hbs:=hb3.size;clear b3 q2 hown0 k0 k1 k2 k3 j0 j1 j2 j3 BX hb;go_wp2_with (at_builtin;refine bT (.tmp 27) (.tmp 32) 83 W.heap.size 5 (.int .u8 0) 1 1 _ 1 _ A2 L.length c2 w3.heap.size (ag L) rfl rfl underlying83 bG rfl (by omega) rfl hown rfl hR hnil hone h63 hby hbs ?_;intro v4 w4 hown4 hg4)
 have hb4:=hb3.trans (hg4.below hown hbs);have BX4:=hg4.blk hown BX3 (by decide);have hown5:w4.ownsRow W.heap.size 5 1 v4 (1+L.length) (ag (3::L)):=by simpa [ag] using hown4
 clear hown hb3 BX3 hR hnil hown4 hg4 hbs hone;go_loopw [3,4] (fun v i wr=>∃ k:Nat,k≤l.length∧i = .int .i64 k∧wr.ownsRow W.heap.size 5 1 v (1+L.length+(jA (l.take k)).length) (ag (3::L++jA (l.take k)))∧Below W.heap.size W wr∧Blk wr W.heap.size 169 #[.int .i64 3,.int .i64 0,.string ⟨#[]⟩,.slice A l.length c]) (fun _ i _=>l.length - (intOf i).toNat)
 case atStart=>exact ⟨0,aao _,rfl,by simpa [jA] using hown5,hb4,BX4⟩
 case round =>
  clear hb4 BX4 hown5;obtain ⟨k,hk,rfl,hown,hb,BX⟩:=hrel;obtain ⟨m0,m1,m2,m3⟩:=dY BX;by_cases hlt:k<l.length
  ·obtain ⟨x,hx⟩:∃ x,Hid (l[k]?=some x):=⟨_,aab (aac hlt)⟩
   obtain ⟨b,off,rfl,hbb,hc⟩:=Gy (hA.below hb) hlt hx.out;obtain ⟨y0,y1,y2,y3,hx1,hx2⟩:=x.four;obtain ⟨c0,c1,c2,c3⟩:=It.fourc hx1 hc;have hxo:=hok x (aam hx.out);have q:=fun w=>X4 x w hxo;rw [hx2] at q
   have hsn:Hid (jA (l.take (k+1))=jA (l.take k)++x.enc):=by
    obtain ⟨hk,rfl⟩:=aag.1 hx.out;show _=_;rw [aaB hk,DR]
   have hxe:=MI hxo
   have hle:Hid (1+L.length+(jA (l.take k)).length≤70368744100000):=by
    have h2:=vT (l:=l.take k) (fun y hy=>hok y (abv hy));rw [aav] at h2;have h3:min k l.length*1000012≤1000*1000012:=Nat.mul_le_mul_right _ (by omega);show _≤_;omega
   clear hc hx1 hx2 hx hxo;go_wp2_with fail
   with_reducible refine (q _).mono ?_
   rintro e w2 ⟨v2,rfl,b2,A2,c4,rfl,hR,_,_,hnil⟩;have hb2:=ah hb b2;have BX2:=BX.below b2 BX.lt;have hown2:=aC hown b2;have hone:∀ q∈ag x.enc,q.oneCell'=true:=aZ;have h63:1+L.length+(jA (l.take k)).length+x.enc.length≤maxLen:=(by have:=hle.out;unfold maxLen;omega);have hby:(1+L.length+(jA (l.take k)).length+x.enc.length)*1≤140737488355328:=(by have:=hle.out;omega);have hbs:=hb2.size;clear hb b2 q BX hown m0 m1 m2 m3 c0 c1 c2 c3;go_wp2_with (at_builtin;refine bT (.tmp 41) (.tmp 47) 83 W.heap.size 5 (.int .u8 0) 1 1 _ (1+L.length+(jA (l.take k)).length) _ A2 x.enc.length c4 w2.heap.size (ag x.enc) rfl rfl underlying83 bG rfl (by omega) rfl hown2 rfl hR hnil hone h63 hby hbs ?_;intro v4 w4 hown4 hg4)
   go_roundw
   case rel=>exact ⟨k+1,by omega,by go_num,by rw [hsn.out,aan];simpa [ag,aay] using hown4,hb2.trans (hg4.below hown2 hbs),hg4.blk hown2 BX2 (by decide)⟩
   case measure=>simp [intOf];omega
  ·have hkn:Hid (jA (l.take k)=jA l):=by show _=_;rw [aaH (by omega)]
   rw [hkn.out] at hown;go_wp2_with fail;go_ret;refine ⟨_,rfl,hb,?_⟩;have e:bZ l=3::L++jA l:=(by rw [hL.out];rfl);have e2:(3::L++jA l).length=1+L.length+(jA l).length:=(by simp;omega);rw [e,e2];exact hown
theorem Jh (A:Option Addr) (n c:Nat) (l:List It) (W:World) (hA:Rd W W.heap.size 4 A n (l.flatMap It.cells)) (hok:∀ x∈l,x.ok) (hn:n≤1000) :
  Calls prog 116 #[gJ A n c] W (fun r w'=>∃ v,r = .returned (.tuple #[v,.int .i64 0])∧Below W.heap.size W w'∧w'.ownsRow W.heap.size 5 1 v (bZ l).length (ag (bZ l))):=by
 have hA2:=(hA.alloc (aad _) (.cells #[.int .i64 3,.int .i64 0,.string ⟨#[]⟩,.slice A n c] 169)).more (B':=(W.alloc (.cells #[.int .i64 3,.int .i64 0,.string ⟨#[]⟩,.slice A n c] 169)).heap.size) (by simp);have BX:=Blk.new W 169 #[.int .i64 3,.int .i64 0,.string ⟨#[]⟩,.slice A n c] _ rfl;have hb:=bAl (aj W) (.cells #[.int .i64 3,.int .i64 0,.string ⟨#[]⟩,.slice A n c] 169);unfold gJ;go_enter func116,ntmps116;go_upto_region 1 with fail;generalize W.alloc (.cells #[.int .i64 3,.int .i64 0,.string ⟨#[]⟩,.slice A n c] 169)=w1 at *;have q:=X3 A n c l w1 hA2 (by omega);obtain ⟨m0,m1,m2,m3⟩:=dY BX;unfold gJ at q;go_wp2_with fail
 with_reducible refine q.mono ?_
 rintro e w2 ⟨rfl,b2⟩;have hb2:=ah hb b2;have BX2:=BX.below b2 BX.lt;have q2:=F9 A n c l w2 ((hA2.below b2).more b2.size) hok hn;unfold gJ at q2;clear q hb b2 BX m0 m1 m2 m3;obtain ⟨m0,m1,m2,m3⟩:=dY BX2;go_wp2_with fail
 with_reducible refine q2.mono ?_
 rintro e w3 ⟨v3,rfl,b3,hS⟩;have hb3:=ah hb2 b3;go_wp2_with fail;go_ret2;exact ⟨_,rfl,hb3,own_base hS hb2.size⟩
theorem jm (v a m d:Nat) (h0:v<4294967296) (hm:2 ^ (32 - a)=m) (hd:2 ^ a=d):bits BinOp.or IntKind.u32 ((v:Int) / (d:Nat)) ((v:Int) * (m:Nat) % 4294967296)=((jK v a:Nat):Int):=by
 have e1:((v:Int) * (m:Nat) % 4294967296)=((v*m % 4294967296:Nat):Int):=by simp
 have e2:((v:Int) / (d:Nat))=((v / d:Nat):Int):=by simp
 rw [e1,e2,u32_or_nat _ _ (Nat.lt_of_le_of_lt (Nat.div_le_self _ _) h0) (aaC _ (by decide))];unfold jK;rw [hm,hd,Nat.or_comm]
theorem NZ (v:Nat) (W:World) (h1:v<4294967296):Calls prog 268 #[.int .u32 v,.int .i64 7] W (Ret (.int .u32 (jK v 7:Nat)) W):=by
 have ho:=aab (jm v 7 33554432 128 h1 (by decide) (by decide));go_enter func268,ntmps268;go_upto_region 1 with fail;go_quiet (fail)
 go_wp2_with fail;go_ret;exact ⟨congrArg (fun n=>Ending.returned (.int .u32 n)) ho.out,o8 (aj W) nq⟩
theorem Gf (v:Nat) (W:World) (h1:v<4294967296):Calls prog 268 #[.int .u32 v,.int .i64 18] W (Ret (.int .u32 (jK v 18:Nat)) W):=by
 have ho:=aab (jm v 18 16384 262144 h1 (by decide) (by decide));go_enter func268,ntmps268;go_upto_region 1 with fail;go_quiet (fail)
 go_wp2_with fail;go_ret;exact ⟨congrArg (fun n=>Ending.returned (.int .u32 n)) ho.out,o8 (aj W) nq⟩
theorem Gg (v:Nat) (W:World) (h1:v<4294967296):Calls prog 268 #[.int .u32 v,.int .i64 17] W (Ret (.int .u32 (jK v 17:Nat)) W):=by
 have ho:=aab (jm v 17 32768 131072 h1 (by decide) (by decide));go_enter func268,ntmps268;go_upto_region 1 with fail;go_quiet (fail)
 go_wp2_with fail;go_ret;exact ⟨congrArg (fun n=>Ending.returned (.int .u32 n)) ho.out,o8 (aj W) nq⟩
theorem Gh (v:Nat) (W:World) (h1:v<4294967296):Calls prog 268 #[.int .u32 v,.int .i64 19] W (Ret (.int .u32 (jK v 19:Nat)) W):=by
 have ho:=aab (jm v 19 8192 524288 h1 (by decide) (by decide));go_enter func268,ntmps268;go_upto_region 1 with fail;go_quiet (fail)
 go_wp2_with fail;go_ret;exact ⟨congrArg (fun n=>Ending.returned (.int .u32 n)) ho.out,o8 (aj W) nq⟩
theorem TV (v:Nat) (W:World) (h1:v<4294967296):Calls prog 268 #[.int .u32 v,.int .i64 6] W (Ret (.int .u32 (jK v 6:Nat)) W):=by
 have ho:=aab (jm v 6 67108864 64 h1 (by decide) (by decide));go_enter func268,ntmps268;go_upto_region 1 with fail;go_quiet (fail)
 go_wp2_with fail;go_ret;exact ⟨congrArg (fun n=>Ending.returned (.int .u32 n)) ho.out,o8 (aj W) nq⟩
theorem LP (v:Nat) (W:World) (h1:v<4294967296):Calls prog 268 #[.int .u32 v,.int .i64 11] W (Ret (.int .u32 (jK v 11:Nat)) W):=by
 have ho:=aab (jm v 11 2097152 2048 h1 (by decide) (by decide));go_enter func268,ntmps268;go_upto_region 1 with fail;go_quiet (fail)
 go_wp2_with fail;go_ret;exact ⟨congrArg (fun n=>Ending.returned (.int .u32 n)) ho.out,o8 (aj W) nq⟩
theorem LQ (v:Nat) (W:World) (h1:v<4294967296):Calls prog 268 #[.int .u32 v,.int .i64 25] W (Ret (.int .u32 (jK v 25:Nat)) W):=by
 have ho:=aab (jm v 25 128 33554432 h1 (by decide) (by decide));go_enter func268,ntmps268;go_upto_region 1 with fail;go_quiet (fail)
 go_wp2_with fail;go_ret;exact ⟨congrArg (fun n=>Ending.returned (.int .u32 n)) ho.out,o8 (aj W) nq⟩
theorem Xp (v:Nat) (W:World) (h1:v<4294967296):Calls prog 268 #[.int .u32 v,.int .i64 2] W (Ret (.int .u32 (jK v 2:Nat)) W):=by
 have ho:=aab (jm v 2 1073741824 4 h1 (by decide) (by decide));go_enter func268,ntmps268;go_upto_region 1 with fail;go_quiet (fail)
 go_wp2_with fail;go_ret;exact ⟨congrArg (fun n=>Ending.returned (.int .u32 n)) ho.out,o8 (aj W) nq⟩
theorem WH (v:Nat) (W:World) (h1:v<4294967296):Calls prog 268 #[.int .u32 v,.int .i64 13] W (Ret (.int .u32 (jK v 13:Nat)) W):=by
 have ho:=aab (jm v 13 524288 8192 h1 (by decide) (by decide));go_enter func268,ntmps268;go_upto_region 1 with fail;go_quiet (fail)
 go_wp2_with fail;go_ret;exact ⟨congrArg (fun n=>Ending.returned (.int .u32 n)) ho.out,o8 (aj W) nq⟩
theorem WI (v:Nat) (W:World) (h1:v<4294967296):Calls prog 268 #[.int .u32 v,.int .i64 22] W (Ret (.int .u32 (jK v 22:Nat)) W):=by
 have ho:=aab (jm v 22 1024 4194304 h1 (by decide) (by decide));go_enter func268,ntmps268;go_upto_region 1 with fail;go_quiet (fail)
 go_wp2_with fail;go_ret;exact ⟨congrArg (fun n=>Ending.returned (.int .u32 n)) ho.out,o8 (aj W) nq⟩
theorem TW (a b c d:Nat) (ha:a<256) (hb:b<256) (hc:c<256) (hd:d<256) :
  bits BinOp.or IntKind.u32 (bits BinOp.or IntKind.u32 (bits BinOp.or IntKind.u32 ((a:Int)*16777216) ((b:Int)*65536)) ((c:Int)*256)) (d:Int)=((Am a b c d:Nat):Int):=by
 have e1:((a:Int)*16777216)=((a*16777216:Nat):Int):=by omega
 have e2:((b:Int)*65536)=((b*65536:Nat):Int):=by omega
 have e3:((c:Int)*256)=((c*256:Nat):Int):=by omega
 have s:∀ (n m i:Nat),m<2 ^ i→n*2 ^ i ||| m=n*2 ^ i+m:=fun n m i h=>by
  have:=Nat.shiftLeft_add_eq_or_of_lt h n
  rw [Nat.shiftLeft_eq] at this;exact this.symm
 have o1:a*16777216 ||| b*65536=(a*256+b)*65536:=by
  have:=s a (b*65536) 24 (by omega)
  rw [show (2:Nat) ^ 24=16777216 from rfl] at this;rw [this];omega
 have o2:(a*256+b)*65536 ||| c*256=((a*256+b)*256+c)*256:=by
  have:=s (a*256+b) (c*256) 16 (by omega)
  rw [show (2:Nat) ^ 16=65536 from rfl] at this;rw [this];omega
 have o3:((a*256+b)*256+c)*256 ||| d=Am a b c d:=by
  have:=s ((a*256+b)*256+c) d 8 (by omega)
  rw [show (2:Nat) ^ 8=256 from rfl] at this;rw [this];unfold Am;omega
 rw [e1,e2,e3,u32_or_nat _ _ (by omega) (by omega),o1,u32_or_nat _ _ (by omega) (by omega),o2,u32_or_nat _ _ (by omega) (by omega),o3]
theorem TY (b off c:Nat) (x0 x1 x2 x3:Nat) (W:World) (h0:W.cell? ⟨b,off,none⟩=some (.int .u8 x0)) (h1:W.cell? ⟨b,off+1,none⟩=some (.int .u8 x1)) (h2:W.cell? ⟨b,off+2,none⟩=some (.int .u8 x2)) (h3:W.cell? ⟨b,off+3,none⟩=some (.int .u8 x3))
  (l0:x0<256) (l1:x1<256) (l2:x2<256) (l3:x3<256):Calls prog 267 #[.slice (some ⟨b,off,none⟩) 4 c] W (Ret (.int .u32 (Am x0 x1 x2 x3:Nat)) W):=by
 have ho:=aab (TW x0 x1 x2 x3 l0 l1 l2 l3);have e0:((x0:Int)*16777216) % 4294967296=(x0:Int)*16777216:=by omega
 have e1:((x1:Int)*65536) % 4294967296=(x1:Int)*65536:=by omega
 have e2:((x2:Int)*256) % 4294967296=(x2:Int)*256:=by omega
 have c0:(x0:Int) % 4294967296=x0:=by omega
 have c1:(x1:Int) % 4294967296=x1:=by omega
 have c2:(x2:Int) % 4294967296=x2:=by omega
 have c3:(x3:Int) % 4294967296=x3:=by omega
 clear l0 l1 l2 l3;go_enter func267,ntmps267;go_upto_region 1 with fail;go_quiet (fail)
 go_wp2_with fail;go_ret;exact ⟨congrArg (fun n=>Ending.returned (.int .u32 n)) ho.out,o8 (aj W) nq⟩
theorem xI (l:List Nat):∀ v∈(bY l).toArray.toList,v.oneCell'=true:=by
 intro v hv;simp only [bY] at hv;obtain ⟨n,_,rfl⟩:=aaK.1 (by simpa using hv);rfl
theorem xJ:(prog.info? 292).map (·.size)=some 64:=by kernel_rfl
theorem Ji (W:World):Calls prog 269 #[] W (Ret (.agg (bY qp).toArray) W):=by
 go_enter func269,ntmps269;go_upto_region 1 with fail;have hb:=bAl (aj W) (.cells (bY qp).toArray 292);have B:=Blk.new W 292 (bY qp).toArray _ rfl;apply wp_region_lit
 iterate 3 go_step
 refine aG (v := .agg (bY qp).toArray) (by rfl) (by rfl) (by rfl) (by rfl) (bP (by exact xJ) (by rfl) (xI qp)) ?_;simp only [Act.put];generalize W.alloc (.cells (bY qp).toArray 292)=w1 at *;go_wp2_with fail;exact bodyPost_ret (v := .agg (bY qp).toArray) (results_cell_row rfl _ _ W.heap.size 292 _ (0,0) _ rfl B underlying292 rfl xJ) rfl ⟨rfl,hb⟩
theorem ul {w:World} {B n b off:Nat} {l:List Nat} (h:Rd w B 1 (some ⟨b,off,none⟩) n (ag l)) (hn:n≠0) {j x:Nat} (hx:l[j]?=some x):w.cell? ⟨b,off+j,none⟩=some (.int .u8 x):=by
 obtain ⟨b',off',e,_,hc⟩:=h.2 (by omega);injection e with e
 injection e with e1 e2
 subst e1;subst e2;exact hc _ _ (qw hx)
theorem WJ (e f g:Nat) (hg:g<4294967296):(e &&& f) ^^^ ((4294967295 ^^^ e) &&& g)=g ^^^ (e &&& (f ^^^ g)):=by
 apply Nat.eq_of_testBit_eq;intro i;simp only [Nat.testBit_xor,Nat.testBit_and]
 have h1:(4294967295:Nat).testBit i=decide (i<32):=by
  rw [show (4294967295:Nat)=2 ^ 32 - 1 from rfl];exact Nat.testBit_two_pow_sub_one 32 i
 rw [h1];by_cases h:i<32
 ·rw [decide_eq_true h];cases e.testBit i <;> cases f.testBit i <;> cases g.testBit i <;> rfl
 ·have h2:g.testBit i=false:=Nat.testBit_lt_two_pow (aaS hg (Nat.pow_le_pow_right (n:=2) (by omega) (show 32≤i by omega)))
  rw [h2,decide_eq_false h];cases e.testBit i <;> cases f.testBit i <;> rfl
theorem Vx (a b c:Nat):(a &&& b) ^^^ (a &&& c) ^^^ (b &&& c)=(a &&& b) ||| (c &&& (a ||| b)):=by
 apply Nat.eq_of_testBit_eq;intro i;simp only [Nat.testBit_xor,Nat.testBit_and,Nat.testBit_or];cases a.testBit i <;> cases b.testBit i <;> cases c.testBit i <;> rfl
theorem w32 (z:Int):IntKind.u32.wrap z=z % 4294967296:=by rw [IntKind.wrap_u32]
theorem WL (s:S8) (k x:Nat) (he:s.e<4294967296) (hf:s.f<4294967296) (hg:s.g<4294967296) :
  IntKind.u32.wrap (IntKind.u32.wrap (IntKind.u32.wrap (IntKind.u32.wrap ((s.h:Int)+bits BinOp.xor IntKind.u32 (bits BinOp.xor IntKind.u32 (jK s.e 6:Nat) (jK s.e 11:Nat)) (jK s.e 25:Nat))+bits BinOp.xor IntKind.u32 (bits BinOp.and IntKind.u32 (s.e:Int) (s.f:Int)) (bits BinOp.and IntKind.u32 (bits BinOp.xor IntKind.u32 IntKind.u32.max (s.e:Int)) (s.g:Int)))+(k:Int))+(x:Int))=((mr s k x:Nat):Int):=by
 have hm:IntKind.u32.max=((4294967295:Nat):Int):=rfl;have l1:=zW8 (dO (a:=6) he) (dO (a:=11) he);have l2:4294967295 ^^^ s.e<4294967296:=zW8 (by omega) he;rw [hm,gI _ _ (dO he) (dO he),gI _ _ l1 (dO he),gI _ _ (by omega) he,oD _ _ l2 hg,oD _ _ he hf,gI _ _ (oO he) (oO l2),WJ _ _ _ hg];simp only [w32];unfold mr Gm;omega
theorem WM (s:S8) (ha:s.a<4294967296) (hb:s.b<4294967296) (hc:s.c<4294967296) :
  (bits BinOp.xor IntKind.u32 (bits BinOp.xor IntKind.u32 (jK s.a 2:Nat) (jK s.a 13:Nat)) (jK s.a 22:Nat)+bits BinOp.xor IntKind.u32 (bits BinOp.xor IntKind.u32 (bits BinOp.and IntKind.u32 (s.a:Int) (s.b:Int)) (bits BinOp.and IntKind.u32 (s.a:Int) (s.c:Int))) (bits BinOp.and IntKind.u32 (s.b:Int) (s.c:Int))) % 4294967296=((oN s:Nat):Int):=by
 have l1:=zW8 (dO (a:=2) ha) (dO (a:=13) ha);rw [gI _ _ (dO ha) (dO ha),gI _ _ l1 (dO ha),oD _ _ ha hb,oD _ _ ha hc,oD _ _ hb hc,gI _ _ (oO ha) (oO ha),gI _ _ (zW8 (oO ha) (oO ha)) (oO hb),Vx];unfold oN Gm;omega
theorem PZ (s:S8) (b off c:Nat) (l:List Nat) (W:World) (hs:s.ok) (hA:Rd W W.heap.size 1 (some ⟨b,off,none⟩) 64 (ag l)) (ho:okB l) (hc:64≤c) (hc2:c≤9223372036854775807) :
  Calls prog 238 #[.agg #[.int .u32 s.a,.int .u32 s.b,.int .u32 s.c,.int .u32 s.d,.int .u32 s.e,.int .u32 s.f,.int .u32 s.g,.int .u32 s.h],.slice (some ⟨b,off,none⟩) 64 c] W (Ret (.agg (bY (jr s l).list).toArray) W):=by
 have hl:Hid (l.length=64):=by have:=hA.1;rw [ai,aaA] at this;exact this
 obtain ⟨_,_,e,hbb,-⟩:=hA.2 (by omega);injection e with e
 injection e with e1 e2 e3
 subst e1;subst e2;clear e3;go_enter func238,ntmps238;go_upto_region 1 with fail;have hb:=bAl (bAl (aj W) (.cells (bY s.list).toArray 267)) (.cells (bY [0,0,0,0,0,0,0,0]).toArray 267);have BS:=(Blk.new W 267 (bY s.list).toArray _ rfl).alloc (.cells (bY [0,0,0,0,0,0,0,0]).toArray 267);have BR:=Blk.new (W.alloc (.cells (bY s.list).toArray 267)) 267 (bY [0,0,0,0,0,0,0,0]).toArray (W.heap.size+1) (by simp);change Code.wp _ _ _ _ ((W.alloc (.cells (bY s.list).toArray 267)).alloc (.cells (bY [0,0,0,0,0,0,0,0]).toArray 267));generalize (W.alloc (.cells (bY s.list).toArray 267)).alloc (.cells (bY [0,0,0,0,0,0,0,0]).toArray 267)=w0 at *;apply wp_region_lit
 iterate 6 go_step
 refine aG (v := .agg (eY []).toArray) (by rfl) (by rfl) (by rfl) (by rfl) (bP (by exact xJ) (by rfl) (xI _)) ?_;simp only [Act.put];have BW:=Blk.new w0 292 (eY []).toArray _ rfl;have hws:W.heap.size+1<w0.heap.size:=BR.lt;replace hb:=bAl hb (.cells (eY []).toArray 292);replace BS:=BS.alloc (.cells (eY []).toArray 292);replace BR:=BR.alloc (.cells (eY []).toArray 292);change wpList _ _ _ _ _ (w0.alloc (.cells (eY []).toArray 292));generalize w0.alloc (.cells (eY []).toArray 292)=w1 at *;generalize w0.heap.size=wb at *;go_wp2_with fail;go_loopw [6] (fun i wr=>∃ k:Nat,k≤16∧i = .int .i64 k∧Below W.heap.size W wr∧Blk wr W.heap.size 267 (bY s.list).toArray∧Blk wr (W.heap.size+1) 267 (bY [0,0,0,0,0,0,0,0]).toArray∧Blk wr wb 292 (eY (words l k)).toArray) (fun i _=>16 - (intOf i).toNat)
 case atStart=>exact ⟨0,aao _,rfl,hb,BS,BR,BW⟩
 case round =>
  clear hb BS BR BW;obtain ⟨k,hk,rfl,hb,BS,BR,BW⟩:=hrel;by_cases hlt:k<16
  ·obtain ⟨x0,hx0⟩:∃ x,Hid (l[4*k]?=some x):=⟨_,aab (aac (by have:=hl.out;omega))⟩
   obtain ⟨x1,hx1⟩:∃ x,Hid (l[4*k+1]?=some x):=⟨_,aab (aac (by have:=hl.out;omega))⟩
   obtain ⟨x2,hx2⟩:∃ x,Hid (l[4*k+2]?=some x):=⟨_,aab (aac (by have:=hl.out;omega))⟩
   obtain ⟨x3,hx3⟩:∃ x,Hid (l[4*k+3]?=some x):=⟨_,aab (aac (by have:=hl.out;omega))⟩
   have q:=TY b (off+4*k) (c - 4*k) x0 x1 x2 x3 wr ((hb.cell (p:=⟨b,off+4*k,none⟩) hbb).trans (ul hA (by omega) hx0.out)) ((hb.cell (p:=⟨b,off+(4*k+1),none⟩) hbb).trans (ul hA (by omega) hx1.out))
    ((hb.cell (p:=⟨b,off+(4*k+2),none⟩) hbb).trans (ul hA (by omega) hx2.out)) ((hb.cell (p:=⟨b,off+(4*k+3),none⟩) hbb).trans (ul hA (by omega) hx3.out))
    (ho _ (aam hx0.out)) (ho _ (aam hx1.out)) (ho _ (aam hx2.out)) (ho _ (aam hx3.out))
   rw [show Am x0 x1 x2 x3=wordAt l k by unfold wordAt;rw [hx0.out,hx1.out,hx2.out,hx3.out];rfl] at q;have i0:(0:Int)≤4 * (k:Int):=(by omega);have i1:IntKind.i64.wrap (4 * (k:Int))=4 * (k:Int):=(by rw [IntKind.wrap_i64];omega);have i2:IntKind.i64.wrap (4 * (k:Int)+4)=4 * (k:Int)+4:=(by rw [IntKind.wrap_i64];omega);have i3:4 * (k:Int)+4≤(c:Int):=(by omega);have i4:(4 * (k:Int)).toNat=4*k:=(by omega);have i5:(4 * (k:Int)+4).toNat=4*k+4:=(by omega);have i6:(0:Int)≤4 * (k:Int)+4:=(by omega);have n1:¬(c=4*k):=(by omega);obtain ⟨v,hv⟩:=nJ BW (by rw [ni];omega) (show k<64 by omega);have hk64:k<64:=(by omega);have hwl:=aab (ni l k);go_wp2_with fail;refine q.mono ?_;rintro e w' ⟨rfl,b'⟩;have hb':=ah hb b';have BS':=BS.below b' BS.lt;have BR':=BR.below b' BR.lt;have BW':=BW.below b' BW.lt;obtain ⟨v',hv'⟩:=nJ BW' (by rw [hwl.out];omega) hk64;have hz:=BW'.frozen k;clear q hb BS BR BW b' hv;go_wp2_with fail;go_roundw
   case rel=>exact ⟨k+1,by omega,by go_num,zQ7 hb' (by show W.heap.size≤wb;omega) _,BS'.far (by show W.heap.size≠wb;omega) _,BR'.far (by show W.heap.size+1≠wb;omega) _,by rw [Ap];exact BW'.fill (by rw [hwl.out];omega) k _ hwl.out⟩
   case measure=>simp [intOf];omega
  ·have hk16:k=16:=by omega
   rw [hk16] at BW;clear hk16;have hW0:Hid (words l 16=qm (words l 16) 0):=rfl;rw [hW0.out] at BW;go_wp2_with fail;go_loopw [7] (fun i wr=>∃ (j:Nat) (ws:List Nat),16≤j∧j≤64∧i = .int .i64 j∧Below W.heap.size W wr∧Blk wr W.heap.size 267 (bY s.list).toArray∧Blk wr (W.heap.size+1) 267 (bY [0,0,0,0,0,0,0,0]).toArray∧Blk wr wb 292 (eY ws).toArray∧Hid (ltU ws∧ws.length=j∧ws=qm (words l 16) (j - 16))) (fun i _=>64 - (intOf i).toNat)
   case atStart=>exact ⟨16,_,aad _,by omega,rfl,hb,BS,BR,BW,aab ⟨Gs ho 16,ni _ _,rfl⟩⟩
   case round =>
    clear hb BS BR BW hlt hk hW0;obtain ⟨j,ws,hj16,hj64,rfl,hb,BS,BR,BW,hW⟩:=hrel;by_cases hlt:j<64
    ·obtain ⟨hWl,hWn,hWe⟩:=hW.out
     obtain ⟨x16,h16⟩:∃ x,Hid (ws[j - 16]?=some x):=⟨_,aab (aac (by omega))⟩
     obtain ⟨x15,h15⟩:∃ x,Hid (ws[j - 15]?=some x):=⟨_,aab (aac (by omega))⟩
     obtain ⟨x7,h7⟩:∃ x,Hid (ws[j - 7]?=some x):=⟨_,aab (aac (by omega))⟩
     obtain ⟨x2,h2⟩:∃ x,Hid (ws[j - 2]?=some x):=⟨_,aab (aac (by omega))⟩
     have l15:=hWl _ (aam h15.out);have l2:=hWl _ (aam h2.out);have d15:=gQ BW h15.out;have d2:=gQ BW h2.out;have i15:(0:Int)≤(j:Int) - 15:=(by omega);have i15':(j:Int) - 15<64:=(by omega);have i2:(0:Int)≤(j:Int) - 2:=(by omega);have i2':(j:Int) - 2<64:=(by omega);have i16:(0:Int)≤(j:Int) - 16:=(by omega);have i16':(j:Int) - 16<64:=(by omega);have i7:(0:Int)≤(j:Int) - 7:=(by omega);have i7':(j:Int) - 7<64:=(by omega);have w16:IntKind.i64.wrap ((j:Int) - 16)=(j:Int) - 16:=(by rw [IntKind.wrap_i64];omega);have w7:IntKind.i64.wrap ((j:Int) - 7)=(j:Int) - 7:=(by rw [IntKind.wrap_i64];omega);have n16:((j:Int) - 16).toNat=j - 16:=(by omega);have n7:((j:Int) - 7).toNat=j - 7:=(by omega);have j0:(0:Int)≤(j:Int):=(by omega);have k16:(16:Int)≤(j:Int):=(by omega);have k7:(7:Int)≤(j:Int):=(by omega);have j64:(j:Int)<64:=(by omega);have hwlen:=aab hWn;clear hWl hWn hWe;go_upto_region 11 with fail;clear d15 d2;have KS:Hid (∀ w',Below wr.heap.size wr w'→w'.cell? ⟨wb,j - 16,none⟩=some (.int .u32 x16)∧w'.cell? ⟨wb,j - 7,none⟩=some (.int .u32 x7)):=aab (fun w' h=>⟨gQ (BW.below h BW.lt) h16.out,gQ (BW.below h BW.lt) h7.out⟩);refine aK (f:=29) KS [(0,1),(1,1),(2,1),(3,1),(4,2),(5,1),(7,1),(10,1),(11,1),(14,1),(15,1),(16,1),(17,2),(19,1),(21,1),(24,1),(25,1),(6,0),(8,0),(9,1),(12,1),(13,1),(18,1),(20,0),(22,0),(23,1),(26,1),(27,1),(28,1),(29,3)] ?_;simp only [bf,aap,aar]
     iterate 4 refine ak ?_
     refine ax ?_
     iterate 7 refine ak ?_
     refine ax ?_
     iterate 4 refine ak ?_
     refine au (fun K hK=>?_);go_simp;(first | (go_at_call 268;(first | (with_reducible refine (NZ _ _ l15).mono ?_) | (with_reducible refine (Gf _ _ l15).mono ?_) | (with_reducible refine (Gg _ _ l2).mono ?_) | (with_reducible refine (Gh _ _ l2).mono ?_));rintro e w9 ⟨rfl,b9⟩;have B7:Below wr.heap.size wr w9:=ah (by repeat (first | with_reducible exact B7 | with_reducible exact aj _ | with_reducible refine bDr ?_)) b9) | skip);refine aH hK KS ?_;clear hK K;refine au (fun K hK=>?_);go_simp;(first | (go_at_call 268;(first | (with_reducible refine (NZ _ _ l15).mono ?_) | (with_reducible refine (Gf _ _ l15).mono ?_) | (with_reducible refine (Gg _ _ l2).mono ?_) | (with_reducible refine (Gh _ _ l2).mono ?_));rintro e w9 ⟨rfl,b9⟩;have B7:Below wr.heap.size wr w9:=ah (by repeat (first | with_reducible exact B7 | with_reducible exact aj _ | with_reducible refine bDr ?_)) b9) | skip);refine aH hK KS ?_;clear hK K
     iterate 4 refine ak ?_
     refine au (fun K hK=>?_);go_simp;(first | (go_at_call 268;(first | (with_reducible refine (NZ _ _ l15).mono ?_) | (with_reducible refine (Gf _ _ l15).mono ?_) | (with_reducible refine (Gg _ _ l2).mono ?_) | (with_reducible refine (Gh _ _ l2).mono ?_));rintro e w9 ⟨rfl,b9⟩;have B7:Below wr.heap.size wr w9:=ah (by repeat (first | with_reducible exact B7 | with_reducible exact aj _ | with_reducible refine bDr ?_)) b9) | skip);refine aH hK KS ?_;clear hK K;refine au (fun K hK=>?_);go_simp;(first | (go_at_call 268;(first | (with_reducible refine (NZ _ _ l15).mono ?_) | (with_reducible refine (Gf _ _ l15).mono ?_) | (with_reducible refine (Gg _ _ l2).mono ?_) | (with_reducible refine (Gh _ _ l2).mono ?_));rintro e w9 ⟨rfl,b9⟩;have B7:Below wr.heap.size wr w9:=ah (by repeat (first | with_reducible exact B7 | with_reducible exact aj _ | with_reducible refine bDr ?_)) b9) | skip);refine aH hK KS ?_;clear hK K
     iterate 4 refine ak ?_
     refine aN ?_
     first | simp only [aak] | simp only [aat,aak]
     have hb2:=ah hb B7;have BS2:=BS.below B7 BS.lt;have BR2:=BR.below B7 BR.lt;have BW2:=BW.below B7 BW.lt;clear hb BS BR BW KS B7;obtain ⟨v,hv⟩:=nJ BW2 (by rw [hwlen.out];omega) (show j<64 by omega);have hz:=BW2.frozen j;go_wp2_with fail;refine NoPanic.normal ?_;go_wp2_with fail;have hvv:=aab (DI x16 x15 x7 x2 l15 l2);rw [hvv.out];have hw':=aab (grow_step hW.out hj16 h16.out h15.out h7.out h2.out);exact ⟨⟨j+1,ws++[vJ x16 x15 x7 x2],by omega,by omega,by go_num,zQ7 hb2 (by show W.heap.size≤wb;omega) _,BS2.far (by show W.heap.size≠wb;omega) _,BR2.far (by show W.heap.size+1≠wb;omega) _,BW2.fill (by rw [hwlen.out];exact hlt) j _ hwlen.out,hw'.out⟩,by simp [intOf];omega⟩
    ·have hj:j=64:=by omega
     obtain ⟨hWl,hWn,hWe⟩:=hW.out;rw [hj] at hWe hWn;clear hj;rw [show 64 - 16=48 from rfl] at hWe;have hWl':=aab hWl;have hWn':=aab hWn;have hWe':=aab hWe;clear hWl hWn hWe hW;have qk:=Ji wr;obtain ⟨K,hK⟩:∃ K,Hid (K=(bY qp).toArray):=⟨_,aab rfl⟩
     rw [←hK.out] at qk;have hKs:K.size=64:=(by rw [hK.out];rfl);have hK1:∀ v∈K.toList,v.oneCell'=true:=(by rw [hK.out];exact xI qp);go_wp2_with fail;refine qk.mono ?_;rintro e w2 ⟨rfl,b2⟩;have hb2:=ah hb b2;have BS2:=BS.below b2 BS.lt;have BR2:=BR.below b2 BR.lt;have BW2:=BW.below b2 BW.lt;clear qk hb BS BR BW b2;dsimp only
     (refine ‹∀ (a:Act) (w:World),wpList _ _ _ _ a w→_› _ _ ?_)
     iterate 3 go_step
     refine aG (v := .agg K) (by rfl) (by rfl) (by rfl) (by rfl) (bP (by rw [hKs];exact xJ) (by rw [hKs];rfl) hK1) ?_;simp only [Act.put];have BK:=Blk.new w2 292 K _ rfl;have BS3:=BS2.alloc (.cells K 292);have BR3:=BR2.alloc (.cells K 292);have BW3:=BW2.alloc (.cells K 292);have hb3:=bAl hb2 (.cells K 292);have hwk:wb<w2.heap.size:=BW2.lt;clear hb2 BS2 BR2 BW2;generalize w2.alloc (.cells K 292)=w3 at *;generalize w2.heap.size=kb at *;obtain ⟨q0,q1,q2,q3,q4,q5,q6,q7⟩:=kR BS3;go_upto_region 13 with fail;go_quiet (fail)
     have BS4:Blk (w3.drewN nq) W.heap.size 267 (bY s.list).toArray:=BS3;have BR4:Blk (w3.drewN nq) (W.heap.size+1) 267 (bY [0,0,0,0,0,0,0,0]).toArray:=BR3;have BW4:Blk (w3.drewN nq) wb 292 (eY ws).toArray:=BW3;have BK4:Blk (w3.drewN nq) kb 292 K:=BK;have hb4:=o8 hb3 nq;clear q0 q1 q2 q3 q4 q5 q6 q7 BS3 BR3 BW3 BK hb3 hj16 hj64 hlt;generalize w3.drewN nq=w4 at *;go_wp2_with fail
     go_loopw [11,12,13,14,15,16,17,18,19] (fun va vb vc vd ve vf vg vh i wr=>∃ (t:Nat) (vs:S8),t≤64∧i = .int .i64 t∧va = .int .u32 vs.a∧vb = .int .u32 vs.b∧vc = .int .u32 vs.c∧vd = .int .u32 vs.d∧ve = .int .u32 vs.e∧vf = .int .u32 vs.f∧vg = .int .u32 vs.g∧vh = .int .u32 vs.h∧Below W.heap.size W wr ∧
      Blk wr W.heap.size 267 (bY s.list).toArray∧Blk wr (W.heap.size+1) 267 (bY [0,0,0,0,0,0,0,0]).toArray∧Blk wr wb 292 (eY ws).toArray∧Blk wr kb 292 K∧vs.ok∧Hid (vs=zX9 qp ws s t)) (fun _ _ _ _ _ _ _ _ i _=>64 - (intOf i).toNat)
     case atStart=>exact ⟨0,s,aao _,rfl,rfl,rfl,rfl,rfl,rfl,rfl,rfl,rfl,hb4,BS4,BR4,BW4,BK4,hs,aab rfl⟩
     case round =>
      clear BS4 BR4 BW4 BK4 hb4;obtain ⟨t,vs,ht64,rfl,rfl,rfl,rfl,rfl,rfl,rfl,rfl,rfl,hb,BS,BR,BW,BK,hvo,hvs⟩:=hrel;by_cases hlt:t<64
      ·obtain ⟨xt,hxt⟩:∃ x,Hid (ws[t]?=some x):=⟨_,aab (aac (by rw [hWn'.out];exact hlt))⟩
       obtain ⟨kt,hkt⟩:∃ x,Hid (qp[t]?=some x):=⟨_,aab (aac (by rw [Gn];exact hlt))⟩
       obtain ⟨o0,o1,o2,o3,o4,o5,o6,o7⟩:=hvo;have it:(t:Int)<64:=(by omega);have it0:(0:Int)≤(t:Int):=(by omega);have KS:Hid (∀ w',Below wr.heap.size wr w'→w'.cell? ⟨kb,t,none⟩=some (.int .u32 kt)∧w'.cell? ⟨wb,t,none⟩=some (.int .u32 xt)):=aab (fun w' h=>⟨((BK.below h BK.lt).cell t).trans (by rw [hK.out,aaG];exact zT hkt.out),gQ (BW.below h BW.lt) hxt.out⟩);go_upto_region 17 with fail;refine aK (f:=27) KS [(0,1),(1,1),(3,1),(6,1),(10,1),(11,1),(12,1),(13,1),(14,1),(15,1),(16,1),(17,1),(19,1),(20,1),(21,2),(23,1),(24,1),(25,2),(2,0),(4,0),(5,1),(7,0),(8,1),(9,1),(18,1),(22,1),(26,1),(27,3)] ?_;simp only [bf,aap,aar]
       iterate 14 refine ak ?_
       refine ax ?_
       iterate 2 refine ak ?_
       refine ax ?_;refine au (fun K hK=>?_);go_simp;(first | (go_at_call 268;(first | (with_reducible refine (TV _ _ o4).mono ?_) | (with_reducible refine (LP _ _ o4).mono ?_) | (with_reducible refine (LQ _ _ o4).mono ?_));rintro e w9 ⟨rfl,b9⟩;have B7:Below wr.heap.size wr w9:=ah (by repeat (first | with_reducible exact B7 | with_reducible exact aj _ | with_reducible refine bDr ?_)) b9) | skip);refine aH hK KS ?_;clear hK K;refine au (fun K hK=>?_);go_simp;(first | (go_at_call 268;(first | (with_reducible refine (TV _ _ o4).mono ?_) | (with_reducible refine (LP _ _ o4).mono ?_) | (with_reducible refine (LQ _ _ o4).mono ?_));rintro e w9 ⟨rfl,b9⟩;have B7:Below wr.heap.size wr w9:=ah (by repeat (first | with_reducible exact B7 | with_reducible exact aj _ | with_reducible refine bDr ?_)) b9) | skip);refine aH hK KS ?_;clear hK K;refine ak ?_;refine au (fun K hK=>?_);go_simp;(first | (go_at_call 268;(first | (with_reducible refine (TV _ _ o4).mono ?_) | (with_reducible refine (LP _ _ o4).mono ?_) | (with_reducible refine (LQ _ _ o4).mono ?_));rintro e w9 ⟨rfl,b9⟩;have B7:Below wr.heap.size wr w9:=ah (by repeat (first | with_reducible exact B7 | with_reducible exact aj _ | with_reducible refine bDr ?_)) b9) | skip);refine aH hK KS ?_;clear hK K
       iterate 5 refine ak ?_
       refine aN ?_
       first | simp only [aak] | simp only [aat,aak]
       go_wp2_with fail;refine NoPanic.normal ?_;have hP:=WL vs kt xt o4 o5 o6;rw [hP];clear hP KS;generalize hpp:mr vs kt xt=P at *;have Hpp:=aab hpp;have hPl:P<4294967296:=(by rw [←hpp];exact aaC _ (by decide));clear hpp;go_upto_region 18 with fail;go_wp2_with fail;refine (Xp _ _ o0).mono ?_;rintro e wa ⟨rfl,ba⟩;go_wp2_with fail;refine (WH _ _ o0).mono ?_;rintro e wc ⟨rfl,bc⟩;go_wp2_with fail;refine (WI _ _ o0).mono ?_;rintro e wd ⟨rfl,bd⟩;have B8:=ah B7 (ah (ah ba bc) bd);have hb8:=ah hb B8;have BS8:=BS.below B8 BS.lt;have BR8:=BR.below B8 BR.lt;have BW8:=BW.below B8 BW.lt;have BK8:=BK.below B8 BK.lt;clear hb BS BR BW BK B7 B8 ba bc bd;go_upto_region 19 with fail;have hQ:=WM vs o0 o1 o2;rw [hQ];clear hQ;have hp4:Hid (((vs.d:Int)+(P:Nat)) % 4294967296=(((vs.d+P) % 4294967296:Nat):Int)):=(by show _=_;omega);have hp0:Hid (((P:Nat)+(oN vs:Nat):Int) % 4294967296=(((P+oN vs) % 4294967296:Nat):Int)):=(by show _=_;omega);have hrs:=aab (yL hvs.out hkt.out hxt.out);have hok:=aab (DD (k:=kt) (w:=xt) (show vs.ok from ⟨o0,o1,o2,o3,o4,o5,o6,o7⟩));go_wp2_with fail;rw [hp4.out,hp0.out];rw [←Hpp.out];exact ⟨⟨t+1,xN vs kt xt,by omega,by go_num,rfl,rfl,rfl,rfl,rfl,rfl,rfl,rfl,hb8,BS8,BR8,BW8,BK8,hok.out,hrs⟩,by simp [intOf];omega⟩
      ·have ht:t=64:=by omega
       have hvs':=hvs.out;rw [ht] at hvs';have HVS:=aab hvs';clear ht hvs';obtain ⟨q0,q1,q2,q3,q4,q5,q6,q7⟩:=kR BS
       have hX:(#[.int .u32 (IntKind.u32.wrap ((s.a:Nat)+(vs.a:Nat):Int)),.int .u32 (IntKind.u32.wrap ((s.b:Nat)+(vs.b:Nat):Int)),.int .u32 (IntKind.u32.wrap ((s.c:Nat)+(vs.c:Nat):Int)),.int .u32 (IntKind.u32.wrap ((s.d:Nat)+(vs.d:Nat):Int)),.int .u32 (IntKind.u32.wrap ((s.e:Nat)+(vs.e:Nat):Int)),.int .u32 (IntKind.u32.wrap ((s.f:Nat)+(vs.f:Nat):Int)),.int .u32 (IntKind.u32.wrap ((s.g:Nat)+(vs.g:Nat):Int)),.int .u32 (IntKind.u32.wrap ((s.h:Nat)+(vs.h:Nat):Int))]:Array Value)=(bY (jr s l).list).toArray:=by
        unfold jr;rw [←hWe'.out,←HVS.out];simp [bY,S8.list,Ut,w32]
       go_upto_region 20 with fail;apply wp_region_lit
       iterate 99 go_step
       refine aG (v := .agg #[.int .u32 (IntKind.u32.wrap ((s.a:Nat)+(vs.a:Nat):Int)),.int .u32 (IntKind.u32.wrap ((s.b:Nat)+(vs.b:Nat):Int)),.int .u32 (IntKind.u32.wrap ((s.c:Nat)+(vs.c:Nat):Int)),.int .u32 (IntKind.u32.wrap ((s.d:Nat)+(vs.d:Nat):Int)),.int .u32 (IntKind.u32.wrap ((s.e:Nat)+(vs.e:Nat):Int)),.int .u32 (IntKind.u32.wrap ((s.f:Nat)+(vs.f:Nat):Int)),.int .u32 (IntKind.u32.wrap ((s.g:Nat)+(vs.g:Nat):Int)),.int .u32 (IntKind.u32.wrap ((s.h:Nat)+(vs.h:Nat):Int))]) (by rfl) (by rfl) (by rfl) (by rfl) (aQ BR (by exact (by kernel_rfl:(prog.info? 267).map (·.size)=some 8)) (by rfl) (by intro v hv;simp only [aaq,aaw,or_false] at hv;rcases hv with rfl | rfl | rfl | rfl | rfl | rfl | rfl | rfl <;> rfl)) ?_;simp only [Act.put];rw [hX];have BR2:=BR.row (bY (jr s l).list).toArray;have hb2:=below_setRow hb (show W.heap.size≤W.heap.size+1 by omega) (bY (jr s l).list).toArray;generalize wr.setRow (W.heap.size+1) (bY (jr s l).list).toArray=w6 at *;go_wp2_with fail;exact bodyPost_ret (v := .agg (bY (jr s l).list).toArray) (results_cell_row rfl _ _ (W.heap.size+1) 267 _ (0,0) _ rfl BR2 underlying267 rfl (by kernel_rfl)) rfl ⟨rfl,hb2⟩
theorem oZ (X:Int):∀ q∈[Value.int .u8 X],q.oneCell'=true:=by intro q hq;simp at hq;subst hq;rfl
theorem lu {w:World} {base n:Nat} {v:Value} {L:List Nat} {x:Nat} {Y:Int} (h:w.ownsRow base 5 1 v (n+1) (ag L++[.int .u8 Y])) (hY:Y=(x:Nat)):w.ownsRow base 5 1 v (n+1) (ag (L++[x])):=by
 subst hY;unfold ag;rw [aaT];exact h
theorem Jj (N k:Nat) (h:k<8):bJ (N / 256 ^ (8 - (k+1))) (k+1)=bJ (N / 256 ^ (8 - k)) k++[N / 256 ^ (7 - k) % 256]:=by
 have e:8 - (k+1)=7 - k:=by omega
 have e2:8 - k=7 - k+1:=by omega
 rw [e,e2,abf,←Nat.div_div_eq_div_mul];rfl
def WN (n:Nat) (xs:List Value) (W:World) (r:Ending) (w':World):Prop:=∃ v,r = .returned v∧Below W.heap.size W w'∧w'.ownsRow W.heap.size 5 1 v n xs
theorem Dj {w:World} {base:Nat} {e:TypeId} {size n:Nat} {v:Value} {xs:List Value} (h:w.ownsRow base e size v n xs) {g:Nat} (hg:g<base) (cs:Array Value):(w.setRow g cs).ownsRow base e size v n xs:=by
 refine h.kept (row:=some g) ⟨rfl,rfl,rfl,by simp,fun k _ hk=>setRow_other w g k _ (fun e=>hk (by rw [e]))⟩ ?_;cases hv:v.ownBlock with
 | none=>exact .inl rfl
 | some k=>exact .inr (by intro e;injection e with e;have:=(h.lt k hv).1;omega)
def zN (l:List Nat) (j:Nat):List Nat:=l++128::List.replicate j 0
theorem TZ (l:List Nat) (j:Nat):(zN l j).length=l.length+1+j:=by simp [zN];omega
theorem P5 (l:List Nat) (j:Nat):zN l (j+1)=zN l j++[0]:=by simp [zN,List.replicate_succ']
def VS:Value→Nat
 | .slice _ n _=>n
 | _=>0
def Vy (n:Nat):Nat:=(119 - n % 64) % 64
theorem Ua (l:List Nat) (h:l.length*8<18446744073709551616):zN l (Vy l.length)++bJ (l.length*8) 8=l++qU l.length:=by
 unfold zN qU Vy;rw [aaR h]
 simp
theorem LU (A:Option Addr) (n c:Nat) (l:List Nat) (W:World) (hA:Rd W W.heap.size 1 A n (ag l)) (hnil:A=none→n=0∧c=0) (hn:n≤70368744177700) :
  Calls prog 237 #[.slice A n c] W (WN (l++qU l.length).length (ag (l++qU l.length)) W):=by
 obtain rfl:l.length=n:=by have:=hA.1;rw [ai,aaA] at this;exact this
 have hown0:=World.ownsRow_lit (base:=W.heap.size) (e:=5) (size:=1) W #[] 0 (aad _) (by unfold maxLen;omega) rfl;have hb0:=bAl (aj W) (.cells #[] 5);have hA1:=hA.below hb0;have hone:=aZ (l:=l);have h63:0+l.length≤maxLen:=by unfold maxLen;omega
 have hby:(0+l.length)*1≤140737488355328:=by omega
 have hbs:=hb0.size;have HF:=aab (Ua l (by omega));obtain ⟨z,hz⟩:∃ z,Hid (z=Vy l.length):=⟨_,aab rfl⟩
 have hz64:z<64:=by rw [hz.out];exact aaC _ (by decide)
 have hz56:Hid ((l.length+1+z) % 64=56):=by show _=_;rw [hz.out];unfold Vy;omega
 rw [←hz.out] at HF;go_enter func237,ntmps237
 go_wp2_with (at_builtin;first
  | (refine bT (.tmp 6) (.tmp 7) 83 W.heap.size 5 (.int .u8 0) 1 1 _ 0 _ A l.length c W.heap.size (ag l) rfl rfl underlying83 bG rfl (by omega) rfl hown0 rfl hA1 hnil hone h63 hby hbs ?_;intro v1 w1 hown1 hg1;have hb1:=hb0.trans (hg1.below hown0 hbs))
  | (refine aO w1 [.int .u8 128] (.tmp 8) (.tmp 9) 83 W.heap.size 5 (.int .u8 0) 1 1 v1 (0+l.length) _ rfl rfl underlying83 bG rfl (by omega) rfl hown1 rfl rfl (oZ _) (by unfold maxLen;omega) (by omega) hb1.size ?_;intro v2 w2 hown2 hg2;have hb2:=hb1.trans (hg2.below hown1 hb1.size)))
 have hown3:w2.ownsRow W.heap.size 5 1 v2 (l.length+1) (ag (zN l 0)):=by simpa [zN,ag] using hown2
 clear hown2 hown1 hown0 hg1 hg2 hb1 hb0 hA1 hbs hone h63 hby
 go_loopw [3] (fun v wr=>∃ j m:Nat,j≤z∧Hid (m=l.length+1+j)∧wr.ownsRow W.heap.size 5 1 v m (ag (zN l j))∧Below W.heap.size W wr) (fun v _=>18446744073709551616 - VS v)
 case atStart=>exact ⟨0,_,aao _,aab rfl,hown3,hb2⟩
 case round =>
  clear hown3 hb2;obtain ⟨j,m,hj,hm,hown,hb⟩:=hrel;obtain ⟨A2,c2,hv,-⟩:=Sl.of_own hown;subst hv;have hm':=hm.out;have hbs:=hb.size;have hsn:=aab (P5 l j);by_cases hlt:j<z
  ·have ht:((m:Int) % 64 != 56)=true:=by rw [bne_iff_ne];have:=hz56.out;omega
   have hm2:Hid (m+1=l.length+1+(j+1)):=(by show _=_;omega);have hmm:m≤70368744177800:=(by omega);have h63:m+1≤maxLen:=(by unfold maxLen;omega);have hby:(m+1)*1≤140737488355328:=(by omega);clear hm';go_wp2_with (at_builtin;refine aO wr [.int .u8 0] (.tmp 15) (.tmp 16) 83 W.heap.size 5 (.int .u8 0) 1 1 _ m _ rfl rfl underlying83 bG rfl (by omega) rfl hown rfl rfl (oZ _) h63 hby hbs ?_;intro v2 w2 hown2 hg2)
   obtain ⟨g',cap',rfl⟩:=ownsRow_succ hown2;go_roundw
   case rel=>exact ⟨j+1,m+1,by omega,hm2,by rw [hsn.out];exact lu hown2 rfl,hb.trans (hg2.below hown hbs)⟩
   case measure=>simp [VS];omega
  ·have hjz:j=z:=by omega
   have ht:((m:Int) % 64 != 56)=false:=(by rw [bne_eq_false_iff_eq];have:=hz56.out;omega);have hmm:m≤70368744177800:=(by omega);have hzj:=aab hjz;rw [hjz] at hown;clear hjz hm' hlt hsn hj;go_wp2_with fail;obtain ⟨N,hN⟩:∃ N,Hid (N=l.length*8):=⟨_,aab rfl⟩
   have hNI:Hid (((l.length:Nat):Int)*8=(N:Int)):=(by show _=_;rw [hN.out];omega);rw [hNI.out];go_loopw [3,5] (fun v i wr=>∃ (k:Nat) (y:Int),Hid (y=7 - k) ∧ -1≤y∧y≤7∧i = .int .i64 y∧wr.ownsRow W.heap.size 5 1 v (m+k) (ag (zN l z++bJ (N / 256 ^ (8 - k)) k))∧Below W.heap.size W wr) (fun _ i _=>(intOf i+1).toNat)
   case atStart=>exact ⟨0,7,aab rfl,by omega,by omega,rfl,by simpa [bJ] using hown,hb⟩
   case round =>
    clear hown hb hbs ht;obtain ⟨k,y,hy,hy0,hy7,rfl,hown,hb⟩:=hrel;have hbs:=hb.size;have h63:m+k+1≤maxLen:=(by have:=hy.out;unfold maxLen;omega);have hby:(m+k+1)*1≤140737488355328:=(by have:=hy.out;omega);have hstep:=aab (Jj N k);obtain ⟨A3,c3,hv3,-⟩:=Sl.of_own hown;have h9:y=7∨y=6∨y=5∨y=4∨y=3∨y=2∨y=1∨y=0∨y = -1:=(by omega);rcases h9 with rfl | rfl | rfl | rfl | rfl | rfl | rfl | rfl | rfl
    ·obtain rfl:k=0:=by have:=hy.out;omega
     have hst:=aab (hstep.out (by omega));have hp:(256:Nat) ^ (7 - 0)=72057594037927936:=(by decide);clear hy hstep;go_wp2_with (at_builtin;refine aO wr [.int .u8 _] (.tmp 26) (.tmp 32) 83 W.heap.size 5 (.int .u8 0) 1 1 _ (m+0) _ rfl rfl underlying83 bG rfl (by omega) rfl hown rfl rfl (oZ _) h63 hby hbs ?_;intro v2 w2 hown2 hg2)
     go_roundw
     case rel=>exact ⟨0+1,6,aab (by omega),by omega,by omega,rfl,by rw [hst.out,←aaZ,←aay];exact lu hown2 (by rw [hp];omega),hb.trans (hg2.below hown hbs)⟩
     case measure=>simp [intOf]
    ·obtain rfl:k=1:=by have:=hy.out;omega
     have hst:=aab (hstep.out (by omega));have hp:(256:Nat) ^ (7 - 1)=281474976710656:=(by decide);clear hy hstep;go_wp2_with (at_builtin;refine aO wr [.int .u8 _] (.tmp 26) (.tmp 32) 83 W.heap.size 5 (.int .u8 0) 1 1 _ (m+1) _ rfl rfl underlying83 bG rfl (by omega) rfl hown rfl rfl (oZ _) h63 hby hbs ?_;intro v2 w2 hown2 hg2)
     go_roundw
     case rel=>exact ⟨1+1,5,aab (by omega),by omega,by omega,rfl,by rw [hst.out,←aaZ,←aay];exact lu hown2 (by rw [hp];omega),hb.trans (hg2.below hown hbs)⟩
     case measure=>simp [intOf]
    ·obtain rfl:k=2:=by have:=hy.out;omega
     have hst:=aab (hstep.out (by omega));have hp:(256:Nat) ^ (7 - 2)=1099511627776:=(by decide);clear hy hstep;go_wp2_with (at_builtin;refine aO wr [.int .u8 _] (.tmp 26) (.tmp 32) 83 W.heap.size 5 (.int .u8 0) 1 1 _ (m+2) _ rfl rfl underlying83 bG rfl (by omega) rfl hown rfl rfl (oZ _) h63 hby hbs ?_;intro v2 w2 hown2 hg2)
     go_roundw
     case rel=>exact ⟨2+1,4,aab (by omega),by omega,by omega,rfl,by rw [hst.out,←aaZ,←aay];exact lu hown2 (by rw [hp];omega),hb.trans (hg2.below hown hbs)⟩
     case measure=>simp [intOf]
    ·obtain rfl:k=3:=by have:=hy.out;omega
     have hst:=aab (hstep.out (by omega));have hp:(256:Nat) ^ (7 - 3)=4294967296:=(by decide);clear hy hstep;go_wp2_with (at_builtin;refine aO wr [.int .u8 _] (.tmp 26) (.tmp 32) 83 W.heap.size 5 (.int .u8 0) 1 1 _ (m+3) _ rfl rfl underlying83 bG rfl (by omega) rfl hown rfl rfl (oZ _) h63 hby hbs ?_;intro v2 w2 hown2 hg2)
     go_roundw
     case rel=>exact ⟨3+1,3,aab (by omega),by omega,by omega,rfl,by rw [hst.out,←aaZ,←aay];exact lu hown2 (by rw [hp];omega),hb.trans (hg2.below hown hbs)⟩
     case measure=>simp [intOf]
    ·obtain rfl:k=4:=by have:=hy.out;omega
     have hst:=aab (hstep.out (by omega));have hp:(256:Nat) ^ (7 - 4)=16777216:=(by decide);clear hy hstep;go_wp2_with (at_builtin;refine aO wr [.int .u8 _] (.tmp 26) (.tmp 32) 83 W.heap.size 5 (.int .u8 0) 1 1 _ (m+4) _ rfl rfl underlying83 bG rfl (by omega) rfl hown rfl rfl (oZ _) h63 hby hbs ?_;intro v2 w2 hown2 hg2)
     go_roundw
     case rel=>exact ⟨4+1,2,aab (by omega),by omega,by omega,rfl,by rw [hst.out,←aaZ,←aay];exact lu hown2 (by rw [hp];omega),hb.trans (hg2.below hown hbs)⟩
     case measure=>simp [intOf]
    ·obtain rfl:k=5:=by have:=hy.out;omega
     have hst:=aab (hstep.out (by omega));have hp:(256:Nat) ^ (7 - 5)=65536:=(by decide);clear hy hstep;go_wp2_with (at_builtin;refine aO wr [.int .u8 _] (.tmp 26) (.tmp 32) 83 W.heap.size 5 (.int .u8 0) 1 1 _ (m+5) _ rfl rfl underlying83 bG rfl (by omega) rfl hown rfl rfl (oZ _) h63 hby hbs ?_;intro v2 w2 hown2 hg2)
     go_roundw
     case rel=>exact ⟨5+1,1,aab (by omega),by omega,by omega,rfl,by rw [hst.out,←aaZ,←aay];exact lu hown2 (by rw [hp];omega),hb.trans (hg2.below hown hbs)⟩
     case measure=>simp [intOf]
    ·obtain rfl:k=6:=by have:=hy.out;omega
     have hst:=aab (hstep.out (by omega));have hp:(256:Nat) ^ (7 - 6)=256:=(by decide);clear hy hstep;go_wp2_with (at_builtin;refine aO wr [.int .u8 _] (.tmp 26) (.tmp 32) 83 W.heap.size 5 (.int .u8 0) 1 1 _ (m+6) _ rfl rfl underlying83 bG rfl (by omega) rfl hown rfl rfl (oZ _) h63 hby hbs ?_;intro v2 w2 hown2 hg2)
     go_roundw
     case rel=>exact ⟨6+1,0,aab (by omega),by omega,by omega,rfl,by rw [hst.out,←aaZ,←aay];exact lu hown2 (by rw [hp];omega),hb.trans (hg2.below hown hbs)⟩
     case measure=>simp [intOf]
    ·obtain rfl:k=7:=by have:=hy.out;omega
     have hst:=aab (hstep.out (by omega));have hp:(256:Nat) ^ (7 - 7)=1:=(by decide);clear hy hstep;go_wp2_with (at_builtin;refine aO wr [.int .u8 _] (.tmp 26) (.tmp 32) 83 W.heap.size 5 (.int .u8 0) 1 1 _ (m+7) _ rfl rfl underlying83 bG rfl (by omega) rfl hown rfl rfl (oZ _) h63 hby hbs ?_;intro v2 w2 hown2 hg2)
     go_roundw
     case rel=>exact ⟨7+1,-1,aab (by omega),by omega,by omega,rfl,by rw [hst.out,←aaZ,←aay];exact lu hown2 (by rw [hp];omega),hb.trans (hg2.below hown hbs)⟩
     case measure=>simp [intOf]
    ·obtain rfl:k=8:=by have:=hy.out;omega
     go_wp2_with fail;go_ret;refine ⟨_,rfl,hb,?_⟩
     have e:zN l z++bJ (N / 256 ^ (8 - 8)) 8=l++qU l.length:=by
      have h:=HF.out;rw [←hN.out] at h;rw [Nat.sub_self,Nat.pow_zero,Nat.div_one];exact h
     rw [e] at hown;have e2:(l++qU l.length).length=m+8:=(by rw [←HF.out,aan,TZ,iw,hm.out,hzj.out]);rw [e2];exact hown
end Go.Proofs.YthbibbkbaphpkaaGreatDoor

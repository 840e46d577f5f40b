/- The reference's guards: few links, a small turn, a small office; bits. -/
import Derived.Test.YthbibbkbaphpkaaGreatDoorMai
import Derived.Test.YthbibbkbaphpkaaGreatDoorMaj
set_option maxHeartbeats 16000000
set_option maxRecDepth 1000000
namespace Go.Proofs.YthbibbkbaphpkaaGreatDoor
open _root_.Go.Proofs.Tryz
open Go.RowKit
def FZ (l:List Lnk):Bool:=decide (l.length≤16)&&l.all (fun x=>decide (x.data.length≤300))
def zM (t:Trn):Bool:=decide (t.left.length≤6)&&(decide (t.right.length≤7)&&(decide (t.rl.length≤7)&&(decide (t.rr.length≤7)&&decide (t.salts.length≤7))))
def PW (n:Nat):Bool:=decide (n≤4)||(decide (64<n)&&decide (n≤80))
def Jd (o:Ofc) (n:Nat) (t:Trn):Bool:=FZ o.chain&&(decide (o.used.length≤40)&&(PW n&&zM t))
def Lnk.okW (x:Lnk):Prop:=inI x.node∧inI x.no∧dL x.prev∧okB x.data
theorem Lnk.cl_lengthW {x:Lnk} {v:Value} (h:x.okW):(x.cl v).length=35:=by
 have:=h.2.2.1.1
 simp [Lnk.cl,ai,this]
def LksW (w:World) (B:Nat) (A:Option Addr) (l:List Lnk) (vs:List Value):Prop :=
 Rd w B 35 A l.length (kP l vs)∧vs.length=l.length∧(∀ (k:Nat) (x:Lnk),l[k]?=some x→∃ Ad cd,vs[k]?=some (Value.slice Ad x.data.length cd)∧Rd w B 1 Ad x.data.length (ag x.data))∧∀ x∈l,x.okW
section
variable {w w':World} {B B':Nat} {A:Option Addr} {l:List Lnk} {vs:List Value}
theorem LksW.strong (h:LksW w B A l vs) (hd:∀ x∈l,x.data.length≤1000000):LksAt w B A l vs:=⟨h.1,h.2.1,h.2.2.1,fun x hx=>by obtain ⟨a,b,c,d⟩:=h.2.2.2 x hx;exact ⟨a,b,c,d,hd x hx⟩⟩
theorem LksW.below (h:LksW w B A l vs) (b:Below B w w'):LksW w' B A l vs :=
 ⟨h.1.below b,h.2.1,fun k x hx=>by obtain ⟨Ad,cd,e,r⟩:=h.2.2.1 k x hx;exact ⟨Ad,cd,e,r.below b⟩,h.2.2.2⟩
theorem LksW.more (h:LksW w B A l vs) (b:B≤B'):LksW w B' A l vs :=
 ⟨h.1.more b,h.2.1,fun k x hx=>by obtain ⟨Ad,cd,e,r⟩:=h.2.2.1 k x hx;exact ⟨Ad,cd,e,r.more b⟩,h.2.2.2⟩
theorem LksW.at_ (h:LksW w B A l vs) {k:Nat} {x:Lnk} (hx:l[k]?=some x):∃ b off Ad cd,A=some ⟨b,off,none⟩∧b<B∧x.okW∧Rd w B 1 Ad x.data.length (ag x.data)∧w.rangeAt b (off+k*35) (x.cl (.slice Ad x.data.length cd)):=by
 have hk:k<l.length:=(aag.1 hx).1;obtain ⟨b,off,e,hb,hc⟩:=h.1.2 (by omega);obtain ⟨Ad,cd,hv,hr⟩:=h.2.2.1 k x hx;have hxo:=h.2.2.2 x (aam hx);refine ⟨b,off,Ad,cd,e,hb,hxo,hr,fun j u hj=>?_⟩;rw [aay];refine hc _ _ ?_;have hj35:j<35:=by have:=(aag.1 hj).1;rwa [Lnk.cl_lengthW hxo] at this
 have hz:(l.zip vs)[k]?=some (x,.slice Ad x.data.length cd):=by rw [List.getElem?_zip_eq_some];exact ⟨hx,hv⟩
 unfold kP;rw [jh (f:=fun p:Lnk×Value=>p.1.cl p.2) (l.zip vs) k j (x,.slice Ad x.data.length cd) (fun p hp=>Lnk.cl_lengthW (h.2.2.2 p.1 (List.of_mem_zip hp).1)) hz hj35];exact hj
end
theorem TP (A:Option Addr) (c:Nat) (l:List Lnk) (vs:List Value) (W:World) (hA:LksW W W.heap.size A l vs) :
  Calls prog 45 #[.slice A l.length c] W (Same (.bool (FZ l)) W):=by
 obtain ⟨v,hv⟩:∃ v,Hid (v=FZ l):=⟨_,aab rfl⟩
 rw [←hv.out];go_enter func45,ntmps45;by_cases h16:l.length≤16
 rotate_left 1
 ·have hv2:Hid (v=false):=by show _=_;rw [hv.out];unfold FZ;rw [decide_eq_false h16];rfl
  have h16':16<l.length:=by omega
  go_wp2_with fail;go_ret;exact ⟨aI hv2.out.symm,rfl⟩
 go_wp2_with fail;go_loop [3] (fun i=>∃ k:Nat,k≤l.length∧i = .int .i64 k∧Hid (∀ y∈l.take k,y.data.length≤300)) (fun i=>l.length - (intOf i).toNat)
 case atStart=>exact ⟨0,aao _,rfl,aab (by simp)⟩
 case round =>
  obtain ⟨k,hkn,rfl,hp⟩:=hrel;by_cases hlt:k<l.length
  ·obtain ⟨x,hx⟩:∃ x,Hid (l[k]?=some x):=⟨_,aab (aac hlt)⟩
   obtain ⟨b,off,Ad,cd,rfl,hbb,hxo,hRd,hrg⟩:=hA.at_ hx.out
   have d3:W.cell? ⟨b,off+k*35+34,none⟩=some (.slice Ad x.data.length cd):=by
    refine hrg 34 _ ?_;unfold Lnk.cl;rw [aaz (by simp),aaz (by rw [ai,hxo.2.2.1.1];simp)];rw [ai,hxo.2.2.1.1];rfl
   have i0:(0:Int)≤(k:Int):=(by omega);have i1:(k:Int)<(l.length:Int):=(by omega);clear hrg;by_cases h3:x.data.length≤300
   ·have hp':Hid (∀ y∈l.take (k+1),y.data.length≤300):=aab (fun y hy=>by
     obtain ⟨hk,e⟩:=aag.1 hx.out;rw [aaB hk] at hy;rcases aaL.1 hy with hy | hy
     ·exact hp.out y hy
     ·obtain rfl:y=l[k]:=by simpa using hy
      rw [e];exact h3)
    go_wp2_with fail;exact ⟨⟨k+1,by omega,by go_num,hp'⟩,by simp [intOf];omega⟩
   ·have hv2:Hid (v=false):=by
     show _=_;rw [hv.out];unfold FZ;rw [abt];exact .inr (abn.2 ⟨x,aam hx.out,by simp [h3]⟩)
    have h3':300<x.data.length:=(by omega);go_wp2_with fail;go_ret;exact ⟨aI hv2.out.symm,rfl⟩
  ·have hv2:Hid (v=true):=by
    show _=_;rw [hv.out];unfold FZ;rw [decide_eq_true h16,aaM,aau];intro y hy;exact decide_eq_true (hp.out y (by rw [aaH (by omega)];exact hy))
   go_wp2_with fail;go_ret;exact ⟨aI hv2.out.symm,rfl⟩
theorem TQ (s:TS) (t:Trn) (W:World):Calls prog 46 #[.agg (s.cl t)] W (Ret (.bool (zM t)) W):=by
 have BT:=Blk.new W 39 (s.cl t) _ rfl;have hb:=bAl (aj W) (.cells (s.cl t) 39);obtain ⟨v,hv⟩:∃ v,Hid (v=zM t):=⟨_,aab rfl⟩
 rw [←hv.out];have hg:∀ b,b=zM t→Hid (v=b):=fun b h=>aab (hv.out.trans h.symm);replace hg:=aab hg;unfold TS.cl at *;have d0:=BT.cell 0;have d1:=BT.cell 1;have d2:=BT.cell 2;have d3:=BT.cell 3;have d4:=BT.cell 4;go_enter func46,ntmps46;go_upto_region 1 with fail;generalize W.alloc (.cells _ 39)=w1 at *;by_cases a0:t.left.length≤6
 rotate_left 1
 ·have hv2:=hg.out false (by unfold zM;rw [decide_eq_false a0];rfl)
  have a':6<t.left.length:=by omega
  go_wp2_with fail;go_ret;exact ⟨aI hv2.out.symm,hb⟩
 by_cases a1:t.right.length≤7
 rotate_left 1
 ·have hv2:=hg.out false (by unfold zM;rw [decide_eq_true a0,decide_eq_false a1];rfl)
  have a':7<t.right.length:=by omega
  go_wp2_with fail;go_ret;exact ⟨aI hv2.out.symm,hb⟩
 by_cases a2:t.rl.length≤7
 rotate_left 1
 ·have hv2:=hg.out false (by unfold zM;rw [decide_eq_true a0,decide_eq_true a1,decide_eq_false a2];rfl)
  have a':7<t.rl.length:=by omega
  go_wp2_with fail;go_ret;exact ⟨aI hv2.out.symm,hb⟩
 by_cases a3:t.rr.length≤7
 rotate_left 1
 ·have hv2:=hg.out false (by unfold zM;rw [decide_eq_true a0,decide_eq_true a1,decide_eq_true a2,decide_eq_false a3];rfl)
  have a':7<t.rr.length:=by omega
  go_wp2_with fail;go_ret;exact ⟨aI hv2.out.symm,hb⟩
 by_cases a4:t.salts.length≤7
 rotate_left 1
 ·have hv2:=hg.out false (by unfold zM;rw [decide_eq_true a0,decide_eq_true a1,decide_eq_true a2,decide_eq_true a3,decide_eq_false a4];rfl)
  have a':7<t.salts.length:=by omega
  go_wp2_with fail;go_ret;exact ⟨aI (by rw [hv2.out];exact decide_eq_false (by omega)),hb⟩
 have hv2:=hg.out true (by unfold zM;rw [decide_eq_true a0,decide_eq_true a1,decide_eq_true a2,decide_eq_true a3,decide_eq_true a4];rfl);go_wp2_with fail;go_ret;exact ⟨aI (by rw [hv2.out];exact decide_eq_true (by omega)),hb⟩
theorem PX (o:Ofc) (A Au A2:Option Addr) (c cu n c2:Nat) (vs:List Value) (s:TS) (t:Trn) (W:World) (hA:LksW W W.heap.size A o.chain vs) :
  Calls prog 10 #[.agg #[.int .i64 o.no,.int .i64 o.secret,.slice A o.chain.length c,.slice Au o.used.length cu],.slice A2 n c2,.agg (s.cl t)] W (Ret (.bool (Jd o n t)) W):=by
 obtain ⟨v,hv⟩:∃ v,Hid (v=Jd o n t):=⟨_,aab rfl⟩
 rw [←hv.out];have hg:∀ b,b=Jd o n t→Hid (v=b):=fun b h=>aab (hv.out.trans h.symm);replace hg:=aab hg;have BO:Blk ((W.alloc (.cells #[.int .i64 o.no,.int .i64 o.secret,.slice A o.chain.length c,.slice Au o.used.length cu] 25)).alloc (.cells (s.cl t) 39)) W.heap.size 25 _:=(Blk.new W _ _ _ rfl).alloc _;have BT:=Blk.new (W.alloc (.cells #[.int .i64 o.no,.int .i64 o.secret,.slice A o.chain.length c,.slice Au o.used.length cu] 25)) 39 (s.cl t) (W.heap.size+1) (by simp);have hb:=bAl (bAl (aj W) (.cells #[.int .i64 o.no,.int .i64 o.secret,.slice A o.chain.length c,.slice Au o.used.length cu] 25)) (.cells (s.cl t) 39);have q1:=TP A c o.chain vs _ ((hA.below hb).more hb.size);have q2:=TQ s t ((W.alloc (.cells #[.int .i64 o.no,.int .i64 o.secret,.slice A o.chain.length c,.slice Au o.used.length cu] 25)).alloc (.cells (s.cl t) 39));unfold TS.cl at *;have c2':=BO.cell 2;have c3':=BO.cell 3;have d0:=BT.cell 0;have d1:=BT.cell 1;have d2:=BT.cell 2;have d3:=BT.cell 3;have d4:=BT.cell 4;have hfo:Hid (Jd o n t=(FZ o.chain&&(decide (o.used.length≤40)&&(PW n&&zM t)))):=aab rfl;generalize FZ o.chain=K at *;generalize zM t=T at *;go_enter func10,ntmps10;go_upto_region 1 with fail;generalize (W.alloc (.cells _ 25)).alloc (.cells _ 39)=w1 at *;cases K
 ·have hv2:=hg.out false (by rw [hfo.out];rfl)
  go_wp2_with fail;refine q1.mono ?_;rintro e w2 ⟨rfl,rfl⟩;go_wp2_with fail;go_ret;exact ⟨aI hv2.out.symm,hb⟩
 by_cases a1:o.used.length≤40
 rotate_left 1
 ·have hv2:=hg.out false (by rw [hfo.out,decide_eq_false a1];rfl)
  have a':40<o.used.length:=by omega
  go_wp2_with fail;refine q1.mono ?_;rintro e w2 ⟨rfl,rfl⟩;go_wp2_with fail;go_ret;exact ⟨aI hv2.out.symm,hb⟩
 by_cases a2:n≤4
 ·have hv2:=hg.out T (by rw [hfo.out,decide_eq_true a1];unfold PW;rw [decide_eq_true a2];rfl)
  go_wp2_with fail;refine q1.mono ?_;rintro e w2 ⟨rfl,rfl⟩;go_wp2_with fail;refine q2.mono ?_;rintro e w2 ⟨rfl,b2⟩;go_wp2_with fail;go_ret;exact ⟨aI hv2.out.symm,ah hb b2⟩
 have a2':4<n:=by omega
 by_cases a3:64<n
 rotate_left 1
 ·have hv2:=hg.out false (by rw [hfo.out,decide_eq_true a1];unfold PW;rw [decide_eq_false a2,decide_eq_false a3];rfl)
  have a':n≤64:=by omega
  go_wp2_with fail;refine q1.mono ?_;rintro e w2 ⟨rfl,rfl⟩;go_wp2_with fail;go_ret;exact ⟨aI hv2.out.symm,hb⟩
 by_cases a4:n≤80
 ·have hv2:=hg.out T (by rw [hfo.out,decide_eq_true a1];unfold PW;rw [decide_eq_false a2,decide_eq_true a3,decide_eq_true a4];rfl)
  go_wp2_with fail;refine q1.mono ?_;rintro e w2 ⟨rfl,rfl⟩;go_wp2_with fail;refine q2.mono ?_;rintro e w2 ⟨rfl,b2⟩;go_wp2_with fail;go_ret;exact ⟨aI (by rw [hv2.out,decide_eq_false (show ¬(n:Int)≤4 by omega),decide_eq_true (show (n:Int)≤80 by omega)];rfl),ah hb b2⟩
 ·have hv2:=hg.out false (by rw [hfo.out,decide_eq_true a1];unfold PW;rw [decide_eq_false a2,decide_eq_true a3,decide_eq_false a4];rfl)
  have a':80<n:=by omega
  go_wp2_with fail;refine q1.mono ?_;rintro e w2 ⟨rfl,rfl⟩;go_wp2_with fail;go_ret;exact ⟨aI hv2.out.symm,hb⟩
theorem Df {k u:Nat} (h:u<128):qA k u=[u]:=by
 cases k with
 | zero=>show [u % 256]=[u];rw [aaR (by omega)]
 | succ k=>show (if u<128 then [u] else _)=[u];rw [if_pos h]
theorem TT {k u:Nat} (h:128≤u):qA (k+1) u=(u % 128+128)::qA k (u / 128):=by
 show (if u<128 then [u] else _)=_;rw [if_neg (by omega)]
theorem xH {P:Program} {ops:Array Oper} {o:Oper} {a:Act} {w:World} {K:Act→World→Prop} {Q:Exit→Act→World→Prop} {E:Prop}
  (hgd:o.guard=none) (s x:Operand) (t:TypeId) (ho:o.op = .call { callee := .builtin .append,args:=#[s,x],argTypes:=#[t,t] })
  (base:Nat) (e:TypeId) (z:Value) (size bytes:Nat) (ht:P.underlying t=some (.slice e)) (hinfo:(P.info? e).map (fun i=>(i.zero,i.size,i.bytes))=some (some z,size,bytes)) (hzs:z.cells.size=size) (hsz:0<size)
  (v:Value) (n:Nat) (xs:List Value) (hs:a.eval s=v) (hown:w.ownsRow base e size v n xs) (A:Option Addr) (B m c:Nat) (news:List Value) (hx:a.eval x = .slice A m c) (hr:Rd w B size A m news) (hm:0<m)
  (h1:∀ u∈news,u.oneCell'=true) (h63:n+m≤maxLen) (hbytes:(n+m)*bytes≤140737488355328) (hbase:base≤w.heap.size)
  (hK:∀ v' w',w'.ownsRow base e size v' (n+m) (xs++news)→Grew w w' v v'→K (a.put o.dst v') w') :
  if Region.wanted o (yielded ops a.tmps)=true then Oper.wp P o a w K Q else E:=by
 obtain ⟨i0,hi,hz0,hz1,hz2⟩:=info_parts hinfo;obtain ⟨b,off,rfl,_,hc⟩:=hr.2 hm;refine step_append_lies w hgd s x t ho base e i0 z size bytes ht hi hz0 hz1 hz2 hzs hsz v n xs hs hown ⟨b,off,none⟩ m c news hx hr.1 ?_ h1 hm h63 hbytes hbase _ rfl ?_
 ·intro j u hu
  rw [dX];exact hc j u hu
 ·intro g' cap w' hown' hgrow hat _
  refine hK _ w' hown' ⟨hgrow,?_⟩;rcases hat with h | h
  ·exact .inl h.symm
  ·exact .inr ⟨g',rfl,by omega⟩
theorem TU:∀ (k u:Nat) (W:World),u<18446744073709551616→u<128 ^ (k+1)→k≤10→Calls prog 241 #[.int .u64 u] W (kL 1 (qA k u).length (ag (qA k u)) W):=by
 intro k;induction k with
 | zero =>
  intro u W h1 h2 _;have hlt:u<128:=by simpa using h2
  have hs:=aab (Df (k:=0) hlt);clear h2;go_enter func241,ntmps241;go_wp2_with fail;go_ret;refine ⟨_,rfl,bAl (aj W) _,?_⟩;rw [hs.out];exact Sl.of_own (base:=W.heap.size) (World.ownsRow_lit W #[.int .u8 (u:Int)] 1 (aad _) (by unfold maxLen;omega) rfl)
 | succ k ih =>
  intro u W h1 h2 hk;by_cases hlt:u<128
  ·have hs:=aab (Df (k:=k+1) hlt)
   clear ih h2;go_enter func241,ntmps241;go_wp2_with fail;go_ret;refine ⟨_,rfl,bAl (aj W) _,?_⟩;rw [hs.out];exact Sl.of_own (base:=W.heap.size) (World.ownsRow_lit W #[.int .u8 (u:Int)] 1 (aad _) (by unfold maxLen;omega) rfl)
  ·have hge:128≤u:=by omega
   have hs:=aab (TT (k:=k) hge);have hq:=fun w=>ih (u / 128) w (by omega) (by rw [abf] at h2;omega) (by omega);rw [show ((u / 128:Nat):Int)=(u:Int) / 128 by omega] at hq;have hl:=(fP k (u / 128)).2;have hm:Hid (((u % 128+128:Nat):Int)=(u:Int) % 128+128):=(by show _=_;omega);obtain ⟨L,hL⟩:∃ L,Hid (L=qA k (u / 128)):=⟨_,aab rfl⟩
   rw [←hL.out] at hq hl;clear ih h2 hlt;go_enter func241,ntmps241;go_wp2_with fail;refine (hq _).mono ?_;rintro e w2 ⟨v2,rfl,b2,A2,c2,rfl,hR,hc2,_,hnil⟩;have hown:=aC (World.ownsRow_lit (base:=W.heap.size) (e:=5) (size:=1) W #[.int .u8 ((u:Int) % 128+128)] 1 (aad _) (by unfold maxLen;omega) rfl) b2;have hb2:=ah (bAl (aj W) _) b2;have hone:∀ q∈ag L,q.oneCell'=true:=aZ;have h63:1+L.length≤maxLen:=(by unfold maxLen;omega);have hby:(1+L.length)*1≤140737488355328:=(by omega);have hbs:=hb2.size;clear b2 hq;go_wp2_with (at_builtin;refine bT (.tmp 12) (.tmp 15) 83 W.heap.size 5 (.int .u8 0) 1 1 _ 1 _ A2 L.length c2 w2.heap.size (ag L) rfl rfl underlying83 bG rfl (by omega) rfl hown rfl hR hnil hone h63 hby hbs ?_;intro v' w' hown4 hg4)
   go_ret;refine ⟨_,rfl,hb2.trans (hg4.below hown hbs),?_⟩;have hX:=Sl.of_own hown4;rw [hs.out,←hL.out]
   have e:ag ((u % 128+128)::L)=[Value.int .u8 ((u:Int) % 128+128)]++ag L:=by
    show Value.int .u8 ((u % 128+128:Nat):Int)::ag L=_;rw [hm.out];rfl
   rw [e,aas,Nat.add_comm];exact hX
theorem tq (u:Nat) (W:World) (h:u<18446744073709551616):Calls prog 241 #[.int .u64 u] W (kL 1 (iV u).length (ag (iV u)) W) :=
 TU 10 u W h (aaS h (by decide)) (aad _)
theorem F5 (n:Int) (w:World) (h0:-9223372036854775808≤n) (h1:n≤9223372036854775807) :
  Calls prog 242 #[.int .i64 n] w (Same (.int .u64 (mQ n:Nat)) w):=by
 by_cases hn:0≤n
 ·have e:Hid (((mQ n:Nat):Int)=2*n):=by show _=_;unfold mQ;rw [if_pos hn];omega
  go_enter func242,ntmps242;go_wp2
  go_ret;exact ⟨eX e.out.symm,rfl⟩
 ·have e:Hid (((mQ n:Nat):Int)=2 * (-(n+1))+1):=by show _=_;unfold mQ;rw [if_neg hn];omega
  have hw1:IntKind.i64.wrap (n+1)=n+1:=by rw [IntKind.wrap_i64];omega
  have hw2:IntKind.i64.wrap (-(n+1)) = -(n+1):=by rw [IntKind.wrap_i64];omega
  have hw3:IntKind.u64.wrap (-(n+1)) = -(n+1):=by rw [IntKind.wrap_u64];omega
  have hw4:IntKind.u64.wrap (2 * -(n+1))=2 * -(n+1):=by rw [IntKind.wrap_u64];omega
  have hw5:IntKind.u64.wrap (2 * -(n+1)+1)=2 * -(n+1)+1:=by rw [IntKind.wrap_u64];omega
  go_enter func242,ntmps242;go_wp2
  go_ret;exact ⟨eX e.out.symm,rfl⟩
theorem F6 (x:It) (w:World):Calls prog 239 #[x.agg] w (Ret (.bool true) w):=by
 cases x with
 | int n =>
  show Calls _ _ #[.agg #[.int .i64 1,.int .i64 n,.string ⟨#[]⟩,.slice none 0 0]] w _;go_enter func239,ntmps239;go_wp2_with fail
  all_goals
   go_ret;exact ⟨rfl,bAl (aj _) _⟩
 | text s =>
  show Calls _ _ #[.agg #[.int .i64 2,.int .i64 0,.string s,.slice none 0 0]] w _;go_enter func239,ntmps239;go_wp2_with fail
  all_goals
   go_ret;exact ⟨rfl,bAl (aj _) _⟩
theorem Dh (x:It) (w:World):Calls prog 240 #[x.agg] w (Ret (.int .i64 0) w):=by
 cases x with
 | int n =>
  show Calls _ _ #[.agg #[.int .i64 1,.int .i64 n,.string ⟨#[]⟩,.slice none 0 0]] w _;go_enter func240,ntmps240;go_wp2_with fail
  all_goals
   go_ret;exact ⟨rfl,bAl (aj _) _⟩
 | text s =>
  show Calls _ _ #[.agg #[.int .i64 2,.int .i64 0,.string s,.slice none 0 0]] w _;go_enter func240,ntmps240;go_wp2_with fail
  all_goals
   go_ret;exact ⟨rfl,bAl (aj _) _⟩
theorem It.four (x:It):∃ y0 y1 y2 y3,x.cells=[y0,y1,y2,y3]∧x.agg = .agg #[y0,y1,y2,y3]:=by cases x <;> exact ⟨_,_,_,_,rfl,rfl⟩
theorem It.fourc {x:It} {y0 y1 y2 y3:Value} {w:World} {b o:Nat} (hx:x.cells=[y0,y1,y2,y3]) (h:∀ j u,x.cells[j]?=some u→w.cell? ⟨b,o+j,none⟩=some u) :
  w.cell? ⟨b,o,none⟩=some y0∧w.cell? ⟨b,o+1,none⟩=some y1∧w.cell? ⟨b,o+2,none⟩=some y2∧w.cell? ⟨b,o+3,none⟩=some y3:=by
 rw [hx] at h;exact ⟨h 0 _ rfl,h 1 _ rfl,h 2 _ rfl,h 3 _ rfl⟩
theorem F7 (A:Option Addr) (n c:Nat) (l:List It) (W:World) (hA:Rd W W.heap.size 4 A n (l.flatMap It.cells)) (hn:n≤1000000) :
  Calls prog 239 #[gJ A n c] W (Ret (.bool true) W):=by
 have hl:Hid (l.length=n):=by have:=hA.1;rw [lW It.cells_length] at this;show _=_;omega
 unfold gJ;have BX:=Blk.new W 169 #[.int .i64 3,.int .i64 0,.string ⟨#[]⟩,.slice A n c] _ rfl;have hb:=bAl (aj W) (.cells #[.int .i64 3,.int .i64 0,.string ⟨#[]⟩,.slice A n c] 169);go_enter func239,ntmps239;go_upto_region 1 with fail;generalize W.alloc (.cells #[.int .i64 3,.int .i64 0,.string ⟨#[]⟩,.slice A n c] 169)=w1 at *;obtain ⟨m0,m1,m2,m3⟩:=dY BX;go_wp2_with fail;go_loopw [3] (fun i wr=>∃ k:Nat,k≤n∧i = .int .i64 k∧Below W.heap.size W wr∧Blk wr W.heap.size 169 #[.int .i64 3,.int .i64 0,.string ⟨#[]⟩,.slice A n c]) (fun i _=>n - (intOf i).toNat)
 case atStart=>exact ⟨0,aao _,rfl,hb,BX⟩
 case round =>
  clear hb BX m0 m1 m2 m3;obtain ⟨k,hk,rfl,hb,BX⟩:=hrel;obtain ⟨m0,m1,m2,m3⟩:=dY BX;by_cases hlt:k<n
  ·obtain ⟨x,hx⟩:∃ x,Hid (l[k]?=some x):=⟨_,aab (aac (by rw [hl.out];exact hlt))⟩
   obtain ⟨b,off,rfl,hbb,hc⟩:=Gy (hA.below hb) hlt hx.out;obtain ⟨y0,y1,y2,y3,hx1,hx2⟩:=x.four;obtain ⟨c0,c1,c2,c3⟩:=It.fourc hx1 hc;have q:=fun w=>F6 x w;rw [hx2] at q;clear hc hx1 hx2 hx;go_wp2_with fail
   with_reducible refine (q _).mono ?_
   rintro e w2 ⟨rfl,b2⟩;have hb2:=ah hb b2;have BX2:=BX.below b2 BX.lt;clear hb b2 q BX;go_wp2_with fail;go_roundw
   case rel=>exact ⟨k+1,by omega,by go_num,hb2,BX2⟩
   case measure=>simp [intOf];omega
  ·go_wp2_with fail
   go_ret;exact ⟨rfl,hb⟩
theorem Di (A:Option Addr) (n c:Nat) (l:List It) (W:World) (hA:Rd W W.heap.size 4 A n (l.flatMap It.cells)) (hn:n≤1000000) :
  Calls prog 240 #[gJ A n c] W (Ret (.int .i64 1) W):=by
 have hl:Hid (l.length=n):=by have:=hA.1;rw [lW It.cells_length] at this;show _=_;omega
 unfold gJ;have BX:=Blk.new W 169 #[.int .i64 3,.int .i64 0,.string ⟨#[]⟩,.slice A n c] _ rfl;have hb:=bAl (aj W) (.cells #[.int .i64 3,.int .i64 0,.string ⟨#[]⟩,.slice A n c] 169);go_enter func240,ntmps240;go_upto_region 1 with fail;generalize W.alloc (.cells #[.int .i64 3,.int .i64 0,.string ⟨#[]⟩,.slice A n c] 169)=w1 at *;obtain ⟨m0,m1,m2,m3⟩:=dY BX;go_wp2_with fail;go_loopw [3,4] (fun d i wr=>∃ k:Nat,k≤n∧i = .int .i64 k∧d = .int .i64 0∧Below W.heap.size W wr∧Blk wr W.heap.size 169 #[.int .i64 3,.int .i64 0,.string ⟨#[]⟩,.slice A n c]) (fun _ i _=>n - (intOf i).toNat)
 case atStart=>exact ⟨0,aao _,rfl,rfl,hb,BX⟩
 case round =>
  clear hb BX m0 m1 m2 m3;obtain ⟨k,hk,rfl,rfl,hb,BX⟩:=hrel;obtain ⟨m0,m1,m2,m3⟩:=dY BX;by_cases hlt:k<n
  ·obtain ⟨x,hx⟩:∃ x,Hid (l[k]?=some x):=⟨_,aab (aac (by rw [hl.out];exact hlt))⟩
   obtain ⟨b,off,rfl,hbb,hc⟩:=Gy (hA.below hb) hlt hx.out;obtain ⟨y0,y1,y2,y3,hx1,hx2⟩:=x.four;obtain ⟨c0,c1,c2,c3⟩:=It.fourc hx1 hc;have q:=fun w=>Dh x w;rw [hx2] at q;clear hc hx1 hx2 hx;go_wp2_with fail
   with_reducible refine (q _).mono ?_
   rintro e w2 ⟨rfl,b2⟩;have hb2:=ah hb b2;have BX2:=BX.below b2 BX.lt;clear hb b2 q BX;go_wp2_with fail;go_roundw
   case rel=>exact ⟨k+1,by omega,by go_num,rfl,hb2,BX2⟩
   case measure=>simp [intOf];omega
  ·go_wp2_with fail
   go_ret;exact ⟨rfl,hb⟩
theorem X3 (A:Option Addr) (n c:Nat) (l:List It) (W:World) (hA:Rd W W.heap.size 4 A n (l.flatMap It.cells)) (hn:n≤1000000) :
  Calls prog 191 #[gJ A n c] W (Ret (.int .i64 0) W):=by
 have hA2:=(hA.alloc (aad _) (.cells #[.int .i64 3,.int .i64 0,.string ⟨#[]⟩,.slice A n c] 169)).more (B':=(W.alloc (.cells #[.int .i64 3,.int .i64 0,.string ⟨#[]⟩,.slice A n c] 169)).heap.size) (by simp);have BX:=Blk.new W 169 #[.int .i64 3,.int .i64 0,.string ⟨#[]⟩,.slice A n c] _ rfl;have hb:=bAl (aj W) (.cells #[.int .i64 3,.int .i64 0,.string ⟨#[]⟩,.slice A n c] 169);unfold gJ;go_enter func191,ntmps191;go_upto_region 1 with fail;generalize W.alloc (.cells #[.int .i64 3,.int .i64 0,.string ⟨#[]⟩,.slice A n c] 169)=w1 at *;have q:=F7 A n c l w1 hA2 hn;obtain ⟨m0,m1,m2,m3⟩:=dY BX;unfold gJ at q;go_wp2_with fail
 with_reducible refine q.mono ?_
 rintro e w2 ⟨rfl,b2⟩;have hb2:=ah hb b2;have BX2:=BX.below b2 BX.lt;have q2:=Di A n c l w2 ((hA2.below b2).more b2.size) hn;unfold gJ at q2;clear q hb b2 BX m0 m1 m2 m3;obtain ⟨m0,m1,m2,m3⟩:=dY BX2;go_wp2_with fail
 with_reducible refine q2.mono ?_
 rintro e w3 ⟨rfl,b3⟩;have hb3:=ah hb2 b3;go_wp2_with fail;go_ret;exact ⟨rfl,hb3⟩
theorem Jg (m:Int) (W:World) (hm:(It.int m).ok) :
  Calls prog 192 #[.agg #[.int .i64 1,.int .i64 m,.string ⟨#[]⟩,.slice none 0 0]] W (kL 1 (It.int m).enc.length (ag (It.int m).enc) W):=by
 obtain ⟨m0,m1⟩:=hm;have hun:=MH m0 m1;have hl:=(fP 10 (mQ m)).2;have q1:=fun w=>F5 m w m0 m1;have q2:=fun w=>tq (mQ m) w hun;obtain ⟨L,hL⟩:∃ L,Hid (L=iV (mQ m)):=⟨_,aab rfl⟩
 rw [←hL.out] at q2;have hl2:L.length≤11:=by rw [hL.out];exact hl
 generalize mQ m=u at q1 q2 hun;have BX:=Blk.new W 169 #[.int .i64 1,.int .i64 m,.string ⟨#[]⟩,.slice none 0 0] _ rfl;have hb:=bAl (aj W) (.cells #[.int .i64 1,.int .i64 m,.string ⟨#[]⟩,.slice none 0 0] 169);have hown0:=World.ownsRow_lit (base:=W.heap.size) (e:=5) (size:=1) (W.alloc (.cells #[.int .i64 1,.int .i64 m,.string ⟨#[]⟩,.slice none 0 0] 169)) #[.int .u8 1] 1 hb.size (by unfold maxLen;omega) rfl;clear hl;go_enter func192,ntmps192;go_upto_region 1 with fail;generalize W.alloc (.cells #[.int .i64 1,.int .i64 m,.string ⟨#[]⟩,.slice none 0 0] 169)=w1 at *;obtain ⟨k0,k1,k2,k3⟩:=dY BX;obtain ⟨j0,j1,j2,j3⟩:=dY (BX.alloc (.cells #[.int .u8 1] 5));go_wp2_with fail
 with_reducible refine (q1 _).mono ?_
 rintro e w2 ⟨rfl,rfl⟩;go_wp2_with fail
 with_reducible refine (q2 _).mono ?_
 rintro e w3 ⟨v2,rfl,b3,A2,c2,rfl,hR,hc2,_,hnil⟩;have hown:=aC hown0 b3;have hb3:=ah (bAl hb _) b3;have hone:∀ q∈ag L,q.oneCell'=true:=aZ;have h63:1+L.length≤maxLen:=by unfold maxLen;omega
 have hby:(1+L.length)*1≤140737488355328:=by omega
 have hbs:=hb3.size;clear b3 q1 q2 hown0 k0 k1 k2 k3 BX hb;go_wp2_with (at_builtin;refine bT (.tmp 9) (.tmp 13) 83 W.heap.size 5 (.int .u8 0) 1 1 _ 1 _ A2 L.length c2 w3.heap.size (ag L) rfl rfl underlying83 bG rfl (by omega) rfl hown rfl hR hnil hone h63 hby hbs ?_;intro v' w' hown4 hg4)
 go_ret;refine ⟨_,rfl,hb3.trans (hg4.below hown hbs),?_⟩;have hX:=Sl.of_own hown4;have e:(It.int m).enc=1::L:=by rw [hL.out];rfl
 rw [e,aas,Nat.add_comm];exact hX
theorem F8 (s:ByteArray) (W:World) (hm:(It.text s).ok) :
  Calls prog 192 #[.agg #[.int .i64 2,.int .i64 0,.string s,.slice none 0 0]] W (kL 1 (It.text s).enc.length (ag (It.text s).enc) W):=by
 have hm':s.size≤1000000:=hm;have hl:=fP 10 s.size;have q2:=fun w=>tq s.size w (by omega);obtain ⟨L,hL⟩:∃ L,Hid (L=iV s.size):=⟨_,aab rfl⟩
 rw [←hL.out] at q2;have hl2:L.length≤11:=by rw [hL.out];exact hl.2
 have hl0:0<L.length:=by rw [hL.out];exact hl.1
 have hW:Hid (IntKind.u64.wrap (s.size:Int)=(s.size:Int)):=by show _=_;rw [IntKind.wrap_u64];omega
 have BX:=Blk.new W 169 #[.int .i64 2,.int .i64 0,.string s,.slice none 0 0] _ rfl;have hb:=bAl (aj W) (.cells #[.int .i64 2,.int .i64 0,.string s,.slice none 0 0] 169);clear hl hm;go_enter func192,ntmps192;go_upto_region 1 with fail;generalize W.alloc (.cells #[.int .i64 2,.int .i64 0,.string s,.slice none 0 0] 169)=w1 at *;obtain ⟨k0,k1,k2,k3⟩:=dY BX;have hbs:=hb.size;have hone:∀ q∈ag L,q.oneCell'=true:=aZ;have h63:1+L.length≤maxLen:=by unfold maxLen;omega
 have hby:(1+L.length)*1≤140737488355328:=by omega
 go_upto_region 5 with fail;have hml:1≤maxLen:=by unfold maxLen;omega
 have hO1:(w1.drew.alloc (.cells #[.int .u8 2] 5)).ownsRow W.heap.size 5 1 (.slice (some ⟨w1.heap.size,0,none⟩) 1 1) 1 [.int .u8 2]:=World.ownsRow_lit w1.drew #[.int .u8 2] 1 hbs hml rfl;have hO2:∀ w5:World,W.heap.size≤w5.heap.size→(w5.alloc (.cells #[.int .u8 2] 5)).ownsRow W.heap.size 5 1 (.slice (some ⟨w5.heap.size,0,none⟩) 1 1) 1 [.int .u8 2]:=fun w5 h=>World.ownsRow_lit w5 #[.int .u8 2] 1 h hml rfl
 go_region_held3 (fun w'=>w'.cell? ⟨W.heap.size,2,none⟩=some (.string s))
  (first | exact BX7.cell 2 | exact BX6.cell 2 | exact BX5.cell 2 | exact (BX5.alloc _).cell 2 | exact BX.cell 2 | exact (BX.below (by repeat (first | exact aj _ | refine bAl ?_ _ | refine bDr ?_)) BX.lt).cell 2)
  (first
  | (refine xH rfl (.tmp 17) (.tmp 22) 83 rfl W.heap.size 5 (.int .u8 0) 1 1 underlying83 bG (by rfl) (by omega) _ 1 [.int .u8 2] (by rfl) (aC hO1 b5) A5 w5.heap.size L.length c5 (ag L) (by rfl) hR5 hl0 hone h63 hby (ah (bAl (bDr hb) _) b5).size ?_
     intro v6 w6 hown6 hg6;have B6:Below W.heap.size W w6:=(ah (bAl (bDr hb) _) b5).trans (hg6.below (aC hO1 b5) (ah (bAl (bDr hb) _) b5).size);have BX6:Blk w6 W.heap.size 169 #[.int .i64 2,.int .i64 0,.string s,.slice none 0 0]:=hg6.blk (aC hO1 b5) BX5 (by decide))
  | (refine xH rfl (.tmp 17) (.tmp 22) 83 rfl W.heap.size 5 (.int .u8 0) 1 1 underlying83 bG (by rfl) (by omega) _ 1 [.int .u8 2] (by rfl) (hO2 w5 (ah (bDr hb) b5).size) A5 w5.heap.size L.length c5 (ag L) (by rfl) (hR5.alloc (aad _) _) hl0 hone h63 hby (bAl (ah (bDr hb) b5) _).size ?_
     intro v6 w6 hown6 hg6;have B6:Below W.heap.size W w6:=(bAl (ah (bDr hb) b5) _).trans (hg6.below (hO2 w5 (ah (bDr hb) b5).size) (bAl (ah (bDr hb) b5) _).size);have BX6:Blk w6 W.heap.size 169 #[.int .i64 2,.int .i64 0,.string s,.slice none 0 0]:=hg6.blk (hO2 w5 (ah (bDr hb) b5).size) (BX5.alloc _) (by decide))
  | (refine qO rfl (.tmp 23) (.tmp 25) 83 9 rfl W.heap.size 5 underlying83 underlying9 bG v6 (1 + L.length) _ (by rfl) hown6 s (by rfl) (by unfold maxLen; omega) (by omega) B6.size ?_
     intro v7 w7 hown7 hg7;have BX7:=hg7.blk hown6 BX6 (by decide);have B7:Below W.heap.size W w7:=B6.trans (hg7.below hown6 B6.size))
  | (go_simp;go_at_call 241;rw [hW.out];(with_reducible refine (q2 _).mono ?_);rintro e w5 ⟨v5,rfl,b5,A5,c5,rfl,hR5,_,_,_⟩;have BX5:Blk w5 W.heap.size 169 #[.int .i64 2,.int .i64 0,.string s,.slice none 0 0]:=(BX.below (by repeat (first | exact aj _ | refine bAl ?_ _ | refine bDr ?_)) BX.lt).below b5 (by have:=BX.lt;simp <;> omega)))
 all_goals
  go_wp2_with fail;go_ret;refine ⟨_,rfl,B7,?_⟩;have hX:=Sl.of_own hown7;have e:(It.text s).enc=2::(L++sb s):=by rw [hL.out];rfl
  rw [e,aas,aan,uN];rw [uq] at hX;have e2:(L.length+s.size+1)=1+L.length+s.size:=by omega
  rw [e2];simpa [ag] using hX
theorem X4 (x:It) (W:World) (hm:x.ok):Calls prog 192 #[x.agg] W (kL 1 x.enc.length (ag x.enc) W):=by
 cases x with
 | int m=>exact Jg m W hm
 | text s=>exact F8 s W hm
theorem F9 (A:Option Addr) (n c:Nat) (l:List It) (W:World) (hA:Rd W W.heap.size 4 A n (l.flatMap It.cells)) (hok:∀ x∈l,x.ok) (hn:n≤1000) :
  Calls prog 192 #[gJ A n c] W (fun r w'=>∃ v,r = .returned v∧Below W.heap.size W w'∧w'.ownsRow W.heap.size 5 1 v (bZ l).length (ag (bZ l))):=by
 obtain rfl:l.length=n:=by have:=hA.1;rw [lW It.cells_length] at this;omega
 unfold gJ;have hl:=fP 10 l.length;have q2:=fun w=>tq l.length w (by omega);obtain ⟨L,hL⟩:∃ L,Hid (L=iV l.length):=⟨_,aab rfl⟩
 rw [←hL.out] at q2;have hl2:L.length≤11:=by rw [hL.out];exact hl.2
 have hWU:Hid (IntKind.u64.wrap (l.length:Int)=(l.length:Int)):=by show _=_;rw [IntKind.wrap_u64];omega
 have BX:=Blk.new W 169 #[.int .i64 3,.int .i64 0,.string ⟨#[]⟩,.slice A l.length c] _ rfl;have hb:=bAl (aj W) (.cells #[.int .i64 3,.int .i64 0,.string ⟨#[]⟩,.slice A l.length c] 169);clear hl;go_enter func192,ntmps192;go_upto_region 1 with fail;generalize W.alloc (.cells #[.int .i64 3,.int .i64 0,.string ⟨#[]⟩,.slice A l.length c] 169)=w1 at *;obtain ⟨k0,k1,k2,k3⟩:=dY BX;obtain ⟨j0,j1,j2,j3⟩:=dY (BX.alloc (.cells #[.int .u8 3] 5));have hown0:=World.ownsRow_lit (base:=W.heap.size) (e:=5) (size:=1) w1 #[.int .u8 3] 1 hb.size (by unfold maxLen;omega) rfl;go_wp2_with fail
 with_reducible refine (q2 _).mono ?_
 rintro e w3 ⟨v2,rfl,b3,A2,c2,rfl,hR,hc2,_,hnil⟩;have hown:=aC hown0 b3;have hb3:=ah (bAl hb _) b3;have BX3:=(BX.alloc (.cells #[.int .u8 3] 5)).below b3 (BX.alloc (.cells #[.int .u8 3] 5)).lt;have hone:∀ q∈ag L,q.oneCell'=true:=aZ;have h63:1+L.length≤maxLen:=by unfold maxLen;omega
 have hby:(1+L.length)*1≤140737488355328:=by omega
 have hbs:=hb3.size;clear b3 q2 hown0 k0 k1 k2 k3 j0 j1 j2 j3 BX hb;go_wp2_with (at_builtin;refine bT (.tmp 27) (.tmp 32) 83 W.heap.size 5 (.int .u8 0) 1 1 _ 1 _ A2 L.length c2 w3.heap.size (ag L) rfl rfl underlying83 bG rfl (by omega) rfl hown rfl hR hnil hone h63 hby hbs ?_;intro v4 w4 hown4 hg4)
 have hb4:=hb3.trans (hg4.below hown hbs);have BX4:=hg4.blk hown BX3 (by decide);have hown5:w4.ownsRow W.heap.size 5 1 v4 (1+L.length) (ag (3::L)):=by simpa [ag] using hown4
 clear hown hb3 BX3 hR hnil hown4 hg4 hbs hone;go_loopw [3,4] (fun v i wr=>∃ k:Nat,k≤l.length∧i = .int .i64 k∧wr.ownsRow W.heap.size 5 1 v (1+L.length+(jA (l.take k)).length) (ag (3::L++jA (l.take k)))∧Below W.heap.size W wr∧Blk wr W.heap.size 169 #[.int .i64 3,.int .i64 0,.string ⟨#[]⟩,.slice A l.length c]) (fun _ i _=>l.length - (intOf i).toNat)
 case atStart=>exact ⟨0,aao _,rfl,by simpa [jA] using hown5,hb4,BX4⟩
 case round =>
  clear hb4 BX4 hown5;obtain ⟨k,hk,rfl,hown,hb,BX⟩:=hrel;obtain ⟨m0,m1,m2,m3⟩:=dY BX;by_cases hlt:k<l.length
  ·obtain ⟨x,hx⟩:∃ x,Hid (l[k]?=some x):=⟨_,aab (aac hlt)⟩
   obtain ⟨b,off,rfl,hbb,hc⟩:=Gy (hA.below hb) hlt hx.out;obtain ⟨y0,y1,y2,y3,hx1,hx2⟩:=x.four;obtain ⟨c0,c1,c2,c3⟩:=It.fourc hx1 hc;have hxo:=hok x (aam hx.out);have q:=fun w=>X4 x w hxo;rw [hx2] at q
   have hsn:Hid (jA (l.take (k+1))=jA (l.take k)++x.enc):=by
    obtain ⟨hk,rfl⟩:=aag.1 hx.out;show _=_;rw [aaB hk,DR]
   have hxe:=MI hxo
   have hle:Hid (1+L.length+(jA (l.take k)).length≤70368744100000):=by
    have h2:=vT (l:=l.take k) (fun y hy=>hok y (abv hy));rw [aav] at h2;have h3:min k l.length*1000012≤1000*1000012:=Nat.mul_le_mul_right _ (by omega);show _≤_;omega
   clear hc hx1 hx2 hx hxo;go_wp2_with fail
   with_reducible refine (q _).mono ?_
   rintro e w2 ⟨v2,rfl,b2,A2,c4,rfl,hR,_,_,hnil⟩;have hb2:=ah hb b2;have BX2:=BX.below b2 BX.lt;have hown2:=aC hown b2;have hone:∀ q∈ag x.enc,q.oneCell'=true:=aZ;have h63:1+L.length+(jA (l.take k)).length+x.enc.length≤maxLen:=(by have:=hle.out;unfold maxLen;omega);have hby:(1+L.length+(jA (l.take k)).length+x.enc.length)*1≤140737488355328:=(by have:=hle.out;omega);have hbs:=hb2.size;clear hb b2 q BX hown m0 m1 m2 m3 c0 c1 c2 c3;go_wp2_with (at_builtin;refine bT (.tmp 41) (.tmp 47) 83 W.heap.size 5 (.int .u8 0) 1 1 _ (1+L.length+(jA (l.take k)).length) _ A2 x.enc.length c4 w2.heap.size (ag x.enc) rfl rfl underlying83 bG rfl (by omega) rfl hown2 rfl hR hnil hone h63 hby hbs ?_;intro v4 w4 hown4 hg4)
   go_roundw
   case rel=>exact ⟨k+1,by omega,by go_num,by rw [hsn.out,aan];simpa [ag,aay] using hown4,hb2.trans (hg4.below hown2 hbs),hg4.blk hown2 BX2 (by decide)⟩
   case measure=>simp [intOf];omega
  ·have hkn:Hid (jA (l.take k)=jA l):=by show _=_;rw [aaH (by omega)]
   rw [hkn.out] at hown;go_wp2_with fail;go_ret;refine ⟨_,rfl,hb,?_⟩;have e:bZ l=3::L++jA l:=(by rw [hL.out];rfl);have e2:(3::L++jA l).length=1+L.length+(jA l).length:=(by simp;omega);rw [e,e2];exact hown
theorem Jh (A:Option Addr) (n c:Nat) (l:List It) (W:World) (hA:Rd W W.heap.size 4 A n (l.flatMap It.cells)) (hok:∀ x∈l,x.ok) (hn:n≤1000) :
  Calls prog 116 #[gJ A n c] W (fun r w'=>∃ v,r = .returned (.tuple #[v,.int .i64 0])∧Below W.heap.size W w'∧w'.ownsRow W.heap.size 5 1 v (bZ l).length (ag (bZ l))):=by
 have hA2:=(hA.alloc (aad _) (.cells #[.int .i64 3,.int .i64 0,.string ⟨#[]⟩,.slice A n c] 169)).more (B':=(W.alloc (.cells #[.int .i64 3,.int .i64 0,.string ⟨#[]⟩,.slice A n c] 169)).heap.size) (by simp);have BX:=Blk.new W 169 #[.int .i64 3,.int .i64 0,.string ⟨#[]⟩,.slice A n c] _ rfl;have hb:=bAl (aj W) (.cells #[.int .i64 3,.int .i64 0,.string ⟨#[]⟩,.slice A n c] 169);unfold gJ;go_enter func116,ntmps116;go_upto_region 1 with fail;generalize W.alloc (.cells #[.int .i64 3,.int .i64 0,.string ⟨#[]⟩,.slice A n c] 169)=w1 at *;have q:=X3 A n c l w1 hA2 (by omega);obtain ⟨m0,m1,m2,m3⟩:=dY BX;unfold gJ at q;go_wp2_with fail
 with_reducible refine q.mono ?_
 rintro e w2 ⟨rfl,b2⟩;have hb2:=ah hb b2;have BX2:=BX.below b2 BX.lt;have q2:=F9 A n c l w2 ((hA2.below b2).more b2.size) hok hn;unfold gJ at q2;clear q hb b2 BX m0 m1 m2 m3;obtain ⟨m0,m1,m2,m3⟩:=dY BX2;go_wp2_with fail
 with_reducible refine q2.mono ?_
 rintro e w3 ⟨v3,rfl,b3,hS⟩;have hb3:=ah hb2 b3;go_wp2_with fail;go_ret2;exact ⟨_,rfl,hb3,own_base hS hb2.size⟩
theorem LM (A:Option Addr) (n c:Nat) (l:List It) (W:World) (hA:Rd W W.heap.size 4 A n (l.flatMap It.cells)) (hok:∀ x∈l,x.ok) (hn:n≤1000) :
  Calls prog 116 #[gJ A n c] W (fun r w'=>∃ v,r = .returned (.tuple #[v,.int .i64 0])∧Below W.heap.size W w'∧Sl w' w'.heap.size 1 v (bZ l).length (ag (bZ l))) :=
 (Jh A n c l W hA hok hn).mono (fun _ _ ⟨v,h1,h2,h3⟩=>⟨v,h1,h2,Sl.of_own h3⟩)
end Go.Proofs.YthbibbkbaphpkaaGreatDoor

/- A letter of the batch that is handed on is replaced: what Judge says, in plain words. -/
import Derived.Test.YthbibbkbaphpkaaGreatDoorMat
import Derived.Test.YthbibbkbaphpkaaGreatDoorMbc
set_option maxHeartbeats 16000000
set_option maxRecDepth 1000000
namespace Go.Proofs.YthbibbkbaphpkaaGreatDoor
open _root_.Go.Proofs.Tryz
section
open Go Go.RowKit
def bV (n:Nat):List Int:=List.replicate n 0
def pg (l:List Int) (k:Nat):List Int:=l.map (fun r=>if r=(k:Int) then 1 else 0)
theorem X4 (n j:Nat):(bV n).getD j 0=0:=by
 unfold bV;rw [aaU,List.getElem?_replicate]
 split <;> rfl
theorem XO (n:Nat):(bV n).all eU=true:=aau.2 (fun x hx=>by rw [List.eq_of_mem_replicate hx];decide)
theorem XY (l:List Int) (k:Nat):(pg l k).all eU=true:=aau.2 (fun x hx=>by
 obtain ⟨r,_,rfl⟩:=aaK.1 hx
 split <;> decide)
theorem X5 {l:List Int} {k j:Nat} {r:Int} (h:l[j]?=some r):(pg l k).getD j 0=if r=(k:Int) then 1 else 0:=aS (by unfold pg;rw [aaD,h];rfl)
theorem XZ {l:List Ltr} (hl:l.all Ltr.good=true) {y:Ltr} (hy:y.good=true) (k:Nat):(l.set k y).all Ltr.good=true:=aau.2 (fun x hx=>by
 rcases List.mem_or_eq_of_mem_set hx with h | rfl
 ·exact aau.1 hl x h
 ·exact hy)
theorem Yf {t:Trn} {key:Int} {inn:List Ltr} {out:List Ltr} {bits:List Int} {j p:Nat} (hj:j<inn.length) (hb:bits.getD j 0=1) (hp:t.right[j]?=some (p:Int)) (hbl:bits.length=inn.length) (ho:out.getD p aB≠t.outAt key inn j) :
  kz key ((jT key inn t).withOut out) bits (t.opens bits)=false:=by
 cases h:kz key ((jT key inn t).withOut out) bits (t.opens bits) with
 | false=>rfl
 | true =>
  refine absurd ?_ ho;unfold kz at h;simp only [aal] at h;have h1:=aau.1 h.2.2.1 j (aaE.2 hj);rw [aS (Trn.opens_at (by omega)),hb] at h1;unfold Mx.fits at h1;simp only [aal] at h1;have h2:=Ltr.eqB_iff.1 h1.2.2;have e2:(t.half 1 j).at_=(p:Int):=(Trn.half_at t 1 j).trans (aS hp);rw [if_neg (by decide),if_neg (by decide),e2,show ((p:Int)).toNat=p by omega] at h2;rw [show ((jT key inn t).withOut out).out=out from rfl] at h2;rw [←h2,show ((jT key inn t).withOut out).mid.getD j aB=t.midAt key inn j from aS (Trn.mid_at hj)];rfl
def outW (o:Ofc) (rest:Int) (inn:List Ltr) (t:Trn):List Ltr:=t.out rest (bu o.secret inn) (bu o.secret inn).length
def XM (o:Ofc) (rest:Int) (h:Hd) (inn:List Ltr) (t:Trn) (k:Nat) (y:Ltr):Jw :=
 ⟨bu o.secret inn,nV o.secret inn,(jT rest (bu o.secret inn) t).withOut ((outW o rest inn t).set k y),mJ o.secret (h.for_ ((outW o rest inn t).set k y))⟩
section
variable {o:Ofc} {rest:Int} {h:Hd} {inn:List Ltr} {t:Trn} (hw:dh o rest h inn t=0)
theorem zh:(outW o rest inn t).length=inn.length:=by unfold outW;rw [Trn.out_length,dJ]
include hw
theorem XT:(outW o rest inn t).all Ltr.good=true:=by
 obtain ⟨hk,_,hg,hf⟩:=xm hw;exact Trn.outs_good hf hk hg
theorem XU {y:Ltr} (hy:y.good=true) (k:Nat):jc (pK o.secret) rest inn (XM o rest h inn t k y) (bV inn.length) (t.opens (bV inn.length))=0:=by
 obtain ⟨hk,_,hg,hf⟩:=xm hw;have hl:((outW o rest inn t).set k y).length=inn.length:=by rw [List.length_set,zh]
 have hz:(bV inn.length).length=inn.length:=List.length_replicate;unfold XM;rw [II hw hl,if_pos];refine Trn.shuf_of hf hk hg (by rw [hl,dJ]) (XZ (XT hw) hy k) (by rw [hz,dJ]) (XO _) ?_;intro j _ hb;exact absurd (X4 _ _) hb
theorem XP {y:Ltr} {k:Nat} (hk:k<inn.length) (hne:∀ z,(outW o rest inn t)[k]?=some z→z≠y) :
  jc (pK o.secret) rest inn (XM o rest h inn t k y) (pg t.right k) (t.opens (pg t.right k))=4:=by
 obtain ⟨hv,_,hg,hf⟩:=xm hw;have hl:((outW o rest inn t).set k y).length=inn.length:=by rw [List.length_set,zh]
 have hr:(pg t.right k).length=(bu o.secret inn).length:=by unfold pg;rw [aaQ];exact (Trn.fit_of hf).1.2.1
 obtain ⟨j,hj,hp,ho⟩:=Trn.out_is (key:=rest) hf (p:=k) (by rw [dJ];exact hk);have hb:(pg t.right k).getD j 0=1:=by rw [X5 hp,if_pos rfl]
 have hno:=Yf (t:=t) (key:=rest) (inn:=bu o.secret inn) (out:=(outW o rest inn t).set k y) hj hb hp hr (by
  rw [aS (x:=y) (by rw [List.getElem?_set_self (by rw [zh];exact hk)])];intro e;exact hne _ ho e.symm)
 unfold XM;rw [II hw hl,hno];rfl
end
theorem Yb (w:World) (e:TypeId) (sz base:Nat) (hb:base≤w.heap.size):(w.alloc (.cells #[] e)).ownsRow base e sz (.slice (some ⟨w.heap.size,0,none⟩) 0 0) 0 [] :=
 ⟨by simp,.inr ⟨w.heap.size,0,#[],rfl,hb,Blk.new w e #[] _ rfl,aad _,by unfold maxLen;omega,by simp,by simp⟩⟩
theorem Yg {w:World} {base n sz:Nat} {e:TypeId} {v:Value} {xs:List Value} (h:w.ownsRow base e sz v (0+n) ([]++xs)) (hn:0<n) :
  ∃ g cap cur,v = .slice (some ⟨g,0,none⟩) n cap∧base≤g∧Blk w g e cur∧n≤cap∧cap≤maxLen∧cur.size=cap*sz∧cur.toList.take (n*sz)=xs:=by
 rw [aax,aaJ] at h;rcases h.2 with ⟨_,h0⟩ | ⟨g,cap,cur,h1,h2,h3,h4,h5,h6,h7⟩
 ·omega
 ·exact ⟨g,cap,cur,h1,h2,h3,h4,h5,h6,h7⟩
theorem Yh {α:Type} {l x:List α} {o n:Nat} (h:o+x.length≤n) (hn:n≤l.length):(l.take o++x++l.drop (o+x.length)).take n=(l.take n).take o++x++(l.take n).drop (o+x.length):=by
 have e1:(l.take o).length=o:=by rw [aav];omega
 rw [List.take_take,Nat.min_eq_left (show o≤n by omega),List.drop_take];have e2:n=(l.take o++x).length+(n - (o+x.length)):=by rw [aan,e1];omega
 conv=>lhs;rw [e2]
 rw [List.take_length_add_append]
theorem Yi (l:List Ltr):∀ u∈l.flatMap Ltr.cl,u.oneCell'=true:=fun u hu=>by
 obtain ⟨x,_,hx⟩:=List.mem_flatMap.1 hu;unfold Ltr.cl at hx;simp only [aaq,aaw,or_false] at hx;rcases hx with rfl | rfl | rfl | rfl | rfl | rfl <;> rfl
theorem Yr {w:World} {g n sz:Nat} {e:TypeId} {cur:Array Value} {xs:List Value} (h:Blk w g e cur) (hx:cur.toList.take (n*sz)=xs) (hl:xs.length=n*sz):Rd w w.heap.size sz (some ⟨g,0,none⟩) n xs :=
 ⟨hl,fun _=>⟨g,0,rfl,h.lt,fun j u hj=>by
  rw [aax,h.cell]
  rw [←hx,aa6] at hj
  split at hj
  ·simpa using hj
  ·cases hj⟩⟩
theorem Yj {w:World} {g g' n sz B:Nat} {xs:List Value} (h:Rd w B sz (some ⟨g,0,none⟩) n xs) (hne:g≠g') (X:Array Value):Rd (w.setRow g' X) B sz (some ⟨g,0,none⟩) n xs :=
 ⟨h.1,fun hn=>by
  obtain ⟨b,off,e,hb,hc⟩:=h.2 hn
  injection e with e
  injection e with e1 e2
  subst e1;subst e2
  exact ⟨g,0,rfl,hb,fun j u hj=>(World.cell?_of_block (setRow_other w g' g X hne)).trans (hc j u hj)⟩⟩
theorem X6 {w:World} {g k:Nat} {l:List Ltr} {x:Ltr} {cur:Array Value} {cap:Nat} (h:Blk w g 63 cur) (hs:cur.size=cap*6) (hc:l.length≤cap) (ht:cur.toList.take (l.length*6)=l.flatMap Ltr.cl) (hk:k<l.length) :
  ∃ cur',(Instr.storeAt 63 (.pointer (some ⟨g,k*6,none⟩)) (.agg #[.int .i64 x.a0,.int .i64 x.b0,.int .i64 x.a1,.int .i64 x.b1,.int .i64 x.a2,.int .i64 x.b2])).run prog w = .ok () (w.setRow g cur')∧cur'.toList.take (l.length*6)=(l.set k x).flatMap Ltr.cl:=by
 have hl:∀ y:Ltr,y.cl.length=6:=fun _=>rfl;have hk6:k*6+6≤l.length*6:=by have:=Nat.mul_le_mul_right 6 (show k+1≤l.length by omega);omega
 have hn6:l.length*6≤cap*6:=Nat.mul_le_mul_right 6 hc;have hst:=pX (P:=prog) (ty:=63) (X:=dF x) (o:=k*6) h Ry (by show k*6+6≤_;omega) (UQ x);refine ⟨_,hst,?_⟩;have e0:cur.toList.length=cap*6:=by rw [←hs];simp
 have:=Yh (l:=cur.toList) (x:=x.cl) (o:=k*6) (n:=l.length*6) (by show k*6+6≤_;omega) (by omega)
 show (cur.toList.take (k*6)++x.cl++cur.toList.drop (k*6+6)).take (l.length*6)=_;rw [show x.cl.length=6 from rfl] at this;rw [this,ht];exact Ez l k x (fun y _=>hl y) (hl x) hk
section
variable {A1 A2:Option Addr} {c1 c2:Nat} {bare proofs:List Ltr} {s:MS} {m:Mx} {h:Hd}
theorem Yt (a:Option Addr) (c:Nat):(sQ A1 A2 c1 c2 bare proofs s m h).setIfInBounds 4 (.slice a m.out.length c)=sQ A1 A2 c1 c2 bare proofs { s with a2:=a,c2:=c } m h:=by
 apply Array.toList_inj.1;rw [Array.toList_setIfInBounds];rfl
theorem Yk {out:List Ltr} (hl:out.length=m.out.length):sQ A1 A2 c1 c2 bare proofs s m h=sQ A1 A2 c1 c2 bare proofs s (m.withOut out) h:=by
 unfold sQ;rw [show (m.withOut out).out=out from rfl,hl];rfl
theorem Yl (ho:h.ok) {d:List Nat} (hd:d.length=32):((sQ A1 A2 c1 c2 bare proofs s m h).toList.take 14++(ag d).toArray.toList++(sQ A1 A2 c1 c2 bare proofs s m h).toList.drop (14+(ag d).toArray.size)).toArray=sQ A1 A2 c1 c2 bare proofs s m { h with root:=d }:=by
 have e:=NR ho hd;have h2:(ag d).length=32:=by rw [ai,hd]
 rw [h2] at e;unfold sQ;rw [aae,h2,←e];rfl
theorem Ym (ho:h.ok) {k:Hd} (hk:k.ok):((sQ A1 A2 c1 c2 bare proofs s m h).toList.take 7++k.cl.toArray.toList++(sQ A1 A2 c1 c2 bare proofs s m h).toList.drop (7+k.cl.toArray.size)).toArray=sQ A1 A2 c1 c2 bare proofs s m k :=
 Tq _ _ _ _ _ _ _ (Hd.cl_length ho) (Hd.cl_length hk)
theorem Yn {w:World} {g:Nat} {J:Array Value} (ho:h.ok) (B:Blk w g 49 J) (hJ:J=sQ A1 A2 c1 c2 bare proofs s m h):(Instr.loadAt 33 (.pointer (some ⟨g,7,none⟩))).run prog w = .ok (.agg h.cl.toArray) w :=
 run_loadAt_mid (P:=prog) w g 7 33 h.cl _ (fun j v hj=>by rw [B.cell,hJ,←hj];exact FP _ _ _ _ _ _ _ _ _) underlying33 rfl (by rw [Hd.cl_length ho];exact cO)
theorem XN (ho:h.ok):(sQ A1 A2 c1 c2 bare proofs s m h).size=49:=by
 have:=Hd.cl_length ho
 unfold sQ oV;rw [aae];simp only [aas];omega
end
theorem Yv {s:Int} {h:Hd} {out out2:List Ltr} (hl:out2.length=out.length):mJ s { mJ s (h.for_ out) with root:=kN out2 }=mJ s (h.for_ out2):=by
 unfold Hd.for_;rw [hl];rfl
theorem Yo (o:Ofc) (rest:Int) (h:Hd) (inn:List Ltr) (t:Trn) (p:Nat) (y:Ltr):(XM o rest h inn t p y).bare.length=inn.length∧(XM o rest h inn t p y).proofs.length=inn.length∧(XM o rest h inn t p y).mix.inn.length=inn.length∧(XM o rest h inn t p y).mix.mid.length=inn.length∧(XM o rest h inn t p y).mix.out.length=inn.length∧(XM o rest h inn t p y).mix.left.length=inn.length∧(XM o rest h inn t p y).mix.right.length=inn.length:=by
 obtain ⟨l1,l2,l3,l4,l5,l6,l7⟩:=yI o rest h inn t;exact ⟨l1,l2,l3,l4,by show ((outW o rest inn t).set p y).length=_;rw [List.length_set,zh],l6,l7⟩
theorem Yw (n:Nat):ints (List.replicate n 0)=ints (bV n):=rfl
theorem Yp (x y:Ltr) (w:World):(binOp .eql 63 x.agg y.agg).run prog w = .ok (.bool (x.eqB y)) w:=by
 have h:=QU x y w;unfold Ltr.agg at h ⊢;rw [run_eql_struct,h];rfl
def bi (l:List Int) (p k:Nat):List Int:=pg (l.take k) p++bV (l.length - k)
theorem XQ (l:List Int) (p:Nat):bi l p 0=bV l.length:=by unfold bi pg;simp
theorem XV (l:List Int) (p:Nat):bi l p l.length=pg l p:=by unfold bi bV;simp
theorem Yu {l:List Int} {p k:Nat} (h:k≤l.length):(bi l p k).length=l.length:=by
 unfold bi pg bV;rw [aan,aaQ,aav,List.length_replicate];omega
theorem XW {l:List Int} {p k:Nat} (h:k<l.length):(bi l p k)[k]?=some 0:=by
 unfold bi pg bV;rw [aaz (by rw [aaQ,aav];omega),aaQ,aav,Nat.min_eq_left (by omega),Nat.sub_self,List.getElem?_replicate,if_pos (by omega)]
theorem XR {l:List Int} {p k:Nat} {r:Int} (h:l[k]?=some r):bi l p (k+1)=if r=(p:Int) then (bi l p k).set k 1 else bi l p k:=by
 obtain ⟨hk,e⟩:=aag.1 h;obtain ⟨n,hn⟩:∃ n,l.length - k=n+1:=⟨l.length - k - 1,by omega⟩
 have h1:bi l p (k+1)=pg (l.take k) p++(if r=(p:Int) then 1 else 0)::bV n:=by
  unfold bi pg;rw [aaB hk,aaT,show l.length - (k+1)=n by omega,e]
  simp
 have h2:bi l p k=pg (l.take k) p++0::bV n:=by unfold bi bV;rw [hn,List.replicate_succ]
 rw [h1,h2];have hl:(pg (l.take k) p).length=k:=by unfold pg;rw [aaQ,aav];omega
 split
 ·rw [abw _ _ (by omega),hl,Nat.sub_self];rfl
 ·rfl
end
section
open Go.RowKit
theorem Yc (a0 n0:Nat) (W:World) (ha:a0<2147483579) (hn:n0<2147483648) :
  Calls prog 213 #[.int .i64 (a0:Nat),.int .i64 (n0:Nat)] W (Same (.int .i64 (eu a0 n0:Nat)) W):=by
 go_enter func213,ntmps213;go_wp2
 go_loop [0,1,5] (fun va vn vc=>∃ a n c:Nat,va = .int .i64 (a:Nat)∧vn = .int .i64 (n:Nat)∧vc = .int .i64 (c:Nat)∧a<2147483579∧n<2147483648∧c<2147483579∧Hid ((c*a ^ n) % Pn=eu a0 n0)) (fun _ vn _=>(intOf vn).toNat)
 case atStart=>exact ⟨a0,n0,1,rfl,rfl,rfl,ha,hn,by omega,by show _=_;unfold eu;rw [Nat.one_mul]⟩
 case round =>
  obtain ⟨a,n,c,rfl,rfl,rfl,ha,hn,hc,hr⟩:=hrel;by_cases h0:0<n
  ·have hm1:=G7 ha ha
   have hm2:=G7 hc ha;have hs:=yS c a n;rw [hr.out] at hs;have e1:((a:Int)*a % 2147483579)=((a*a % 2147483579:Nat):Int):=(by simp);have e2:(n:Int) / 2=((n / 2:Nat):Int):=(by simp);have e3:((c:Int)*a % 2147483579)=((c*a % 2147483579:Nat):Int):=(by simp);have E1:=aab e1;have E2:=aab e2;have E3:=aab e3;have M1:a*a % 2147483579<2147483579:=aaC _ (by decide);have M2:c*a % 2147483579<2147483579:=aaC _ (by decide);by_cases hb:n % 2=1
   ·rw [if_pos hb] at hs
    have Hs:=aab hs.symm;have t:((n:Int) % 2==1)=true:=(by rw [beq_iff_eq];omega);clear e1 e2 e3 hs hb hr;go_wp2
    rw [E1.out,E2.out,E3.out];exact ⟨⟨_,_,_,rfl,rfl,rfl,M1,by omega,M2,Hs⟩,by simp [intOf];omega⟩
   ·rw [if_neg hb] at hs
    have Hs:=aab hs.symm;have t:((n:Int) % 2==1)=false:=(by rw [beq_eq_false_iff_ne];omega);clear e1 e2 e3 hs hb hr;go_wp2
    rw [E1.out,E2.out];exact ⟨⟨_,_,_,rfl,rfl,rfl,M1,by omega,hc,Hs⟩,by simp [intOf];omega⟩
  ·obtain rfl:n=0:=by omega
   have hv:Hid (c=eu a0 n0):=by
    show _=_
    have:=hr.out
    rw [Nat.pow_zero,aaA,aaR (show c<Pn from hc)] at this;exact this
   go_wp2
   go_ret;exact ⟨by rw [hv.out];rfl,rfl⟩
theorem XL (x:Int) (W:World):Calls prog 151 #[.int .i64 x] W (Same (.bool (aA x)) W):=by
 by_cases h1:1≤x
 ·by_cases h2 : x < 2147483579
  ·obtain ⟨n,rfl⟩:=abB (show 0≤x by omega)
   have hQ:((Qn:Nat):Int)=1073741789:=rfl;have q:=Yc n Qn W (by omega) (by decide);rw [hQ] at q
   have hv:Hid (aA (n:Int)=(((eu n Qn:Nat):Int)==1)):=by
    show _=_;unfold aA xW;rw [decide_eq_true h1,decide_eq_true h2,aba,aaM,aaM];generalize eu n Qn=m;rw [abb,beq_iff_eq,beq_iff_eq];omega
   generalize eu n Qn=m at *;clear hQ;go_enter func151,ntmps151;go_wp2_with fail;refine q.mono ?_;rintro e w' ⟨rfl,rfl⟩;go_wp2_with fail;go_ret;exact ⟨aI hv.out.symm,rfl⟩
  ·have hv:=aab (GU (x:=x) (by omega))
   go_enter func151,ntmps151;go_wp2_with fail;go_ret;exact ⟨aI hv.out.symm,rfl⟩
 ·have hv:=aab (JG (x:=x) (by omega))
  go_enter func151,ntmps151;go_wp2_with fail;go_ret;exact ⟨aI hv.out.symm,rfl⟩
theorem Ye (x:Ltr) (W:World):Calls prog 92 #[.agg #[.int .i64 x.a0,.int .i64 x.b0,.int .i64 x.a1,.int .i64 x.b1,.int .i64 x.a2,.int .i64 x.b2]] W (Ret (.int .i64 x.err) W):=by
 have B0:Blk (W.alloc (.cells x.cells 63)) W.heap.size 63 x.cells:=Blk.new W _ _ _ rfl;have hb:=bAl (aj W) (.cells x.cells 63);obtain ⟨v,hv⟩:∃ v,v=x.err:=⟨_,rfl⟩
 rw [←hv];go_enter func92,ntmps92;go_upto_region 1 with fail;change Code.wp _ _ _ _ (W.alloc (.cells x.cells 63));generalize W.alloc (.cells x.cells 63)=w1 at *;obtain ⟨k0,k1,k2,k3,k4,k5⟩:=Blk.six (v0 := .int .i64 x.a0) (v1 := .int .i64 x.b0) (v2 := .int .i64 x.a1) (v3 := .int .i64 x.b1) (v4 := .int .i64 x.a2) (v5 := .int .i64 x.b2) B0;have Hv:=aab hv;clear hv B0;go_wp2_with fail;go_loop [3] (fun i=>∃ m:Int,i = .int .i64 m∧(m=0∧Hid True∨m=1∧Hid (x.goodAt 0=true)∨m=2∧Hid (x.goodAt 0=true∧x.goodAt 1=true)∨m=3∧Hid (x.good=true))) (fun i=>3 - (intOf i).toNat)
 case atStart=>exact ⟨0,rfl,.inl ⟨rfl,aab trivial⟩⟩
 case round =>
  obtain ⟨m,rfl,(⟨rfl,hq⟩ | ⟨rfl,hq⟩ | ⟨rfl,hq⟩ | ⟨rfl,hq⟩)⟩:=hrel
  ·have q1:=XL x.a0 w1
   have q2:=XL x.b0 w1;have hga:x.goodAt 0=(aA x.a0&&aA x.b0):=rfl;cases h1:aA x.a0
   ·have hbad:Hid (v=100):=by show _=_;rw [Hv.out];unfold Ltr.err;rw [x.bad_of 0 (by rw [hga,h1];rfl)];rfl
    rw [h1] at q1;clear h1 q2 hga;go_wp2_with fail;refine q1.mono ?_;rintro e w' ⟨rfl,rfl⟩;go_wp2_with fail;go_ret;exact ⟨eX hbad.out.symm,hb⟩
   ·cases h2:aA x.b0
    ·have hbad:Hid (v=100):=by show _=_;rw [Hv.out];unfold Ltr.err;rw [x.bad_of 0 (by rw [hga,h1,h2];rfl)];rfl
     rw [h1] at q1;rw [h2] at q2;clear h1 h2 hga;go_wp2_with fail;refine q1.mono ?_;rintro e w' ⟨rfl,rfl⟩;go_wp2_with fail;refine q2.mono ?_;rintro e w' ⟨rfl,rfl⟩;go_wp2_with fail;go_ret;exact ⟨eX hbad.out.symm,hb⟩
    ·have hg:x.goodAt 0=true:=by rw [hga,h1,h2];rfl
     have hn:Hid (x.goodAt 0=true):=hg;rw [h1] at q1;rw [h2] at q2;clear h1 h2 hga hg;go_wp2_with fail;refine q1.mono ?_;rintro e w' ⟨rfl,rfl⟩;go_wp2_with fail;refine q2.mono ?_;rintro e w' ⟨rfl,rfl⟩;go_wp2_with fail;exact ⟨⟨1,rfl,.inr (.inl ⟨rfl,hn⟩)⟩,by simp [intOf]⟩
  ·have q1:=XL x.a1 w1
   have q2:=XL x.b1 w1;have hga:x.goodAt 1=(aA x.a1&&aA x.b1):=rfl;cases h1:aA x.a1
   ·have hbad:Hid (v=100):=by show _=_;rw [Hv.out];unfold Ltr.err;rw [x.bad_of 1 (by rw [hga,h1];rfl)];rfl
    rw [h1] at q1;clear h1 q2 hga;go_wp2_with fail;refine q1.mono ?_;rintro e w' ⟨rfl,rfl⟩;go_wp2_with fail;go_ret;exact ⟨eX hbad.out.symm,hb⟩
   ·cases h2:aA x.b1
    ·have hbad:Hid (v=100):=by show _=_;rw [Hv.out];unfold Ltr.err;rw [x.bad_of 1 (by rw [hga,h1,h2];rfl)];rfl
     rw [h1] at q1;rw [h2] at q2;clear h1 h2 hga;go_wp2_with fail;refine q1.mono ?_;rintro e w' ⟨rfl,rfl⟩;go_wp2_with fail;refine q2.mono ?_;rintro e w' ⟨rfl,rfl⟩;go_wp2_with fail;go_ret;exact ⟨eX hbad.out.symm,hb⟩
    ·have hg:x.goodAt 1=true:=by rw [hga,h1,h2];rfl
     have hn:Hid (x.goodAt 0=true∧x.goodAt 1=true):=⟨hq.out,hg⟩
     rw [h1] at q1;rw [h2] at q2;clear h1 h2 hga hg;go_wp2_with fail;refine q1.mono ?_;rintro e w' ⟨rfl,rfl⟩;go_wp2_with fail;refine q2.mono ?_;rintro e w' ⟨rfl,rfl⟩;go_wp2_with fail;exact ⟨⟨2,rfl,.inr (.inr (.inl ⟨rfl,hn⟩))⟩,by simp [intOf]⟩
  ·have q1:=XL x.a2 w1
   have q2:=XL x.b2 w1;have hga:x.goodAt 2=(aA x.a2&&aA x.b2):=rfl;cases h1:aA x.a2
   ·have hbad:Hid (v=100):=by show _=_;rw [Hv.out];unfold Ltr.err;rw [x.bad_of 2 (by rw [hga,h1];rfl)];rfl
    rw [h1] at q1;clear h1 q2 hga;go_wp2_with fail;refine q1.mono ?_;rintro e w' ⟨rfl,rfl⟩;go_wp2_with fail;go_ret;exact ⟨eX hbad.out.symm,hb⟩
   ·cases h2:aA x.b2
    ·have hbad:Hid (v=100):=by show _=_;rw [Hv.out];unfold Ltr.err;rw [x.bad_of 2 (by rw [hga,h1,h2];rfl)];rfl
     rw [h1] at q1;rw [h2] at q2;clear h1 h2 hga;go_wp2_with fail;refine q1.mono ?_;rintro e w' ⟨rfl,rfl⟩;go_wp2_with fail;refine q2.mono ?_;rintro e w' ⟨rfl,rfl⟩;go_wp2_with fail;go_ret;exact ⟨eX hbad.out.symm,hb⟩
    ·have hg:x.goodAt 2=true:=by rw [hga,h1,h2];rfl
     have hn:Hid (x.good=true):=(by show _=_;rw [x.good_eq,hq.out.1,hq.out.2,hg];rfl);rw [h1] at q1;rw [h2] at q2;clear h1 h2 hga hg;go_wp2_with fail;refine q1.mono ?_;rintro e w' ⟨rfl,rfl⟩;go_wp2_with fail;refine q2.mono ?_;rintro e w' ⟨rfl,rfl⟩;go_wp2_with fail;exact ⟨⟨3,rfl,.inr (.inr (.inr ⟨rfl,hn⟩))⟩,by simp [intOf]⟩
  ·have hx:Hid (v=0):=by show _=_;rw [Hv.out];unfold Ltr.err;rw [hq.out];rfl
   go_wp2_with fail;go_ret;exact ⟨eX hx.out.symm,hb⟩
theorem X7 (A:Option Addr) (n c:Nat) (l:List Ltr) (W:World) (hA:Rd W W.heap.size 6 A n (l.flatMap Ltr.cl)) (hn:n≤9223372036854775807) :
  Calls prog 22 #[.slice A n c] W (Ret (.bool (l.all Ltr.good)) W):=by
 obtain rfl:l.length=n:=iR hA;obtain ⟨v,hv⟩:∃ v,v=l.all Ltr.good:=⟨_,rfl⟩
 rw [←hv];have Hv:=aab hv;clear hv;go_enter func22,ntmps22;go_wp2_with fail;go_loopw [3] (fun i wr=>∃ k:Nat,k≤l.length∧i = .int .i64 k∧Below W.heap.size W wr∧Hid (∀ y∈l.take k,y.good=true)) (fun i _=>l.length - (intOf i).toNat)
 case atStart=>exact ⟨0,aao _,rfl,aj W,aab (by simp)⟩
 case round =>
  obtain ⟨k,hkn,rfl,hb,hp⟩:=hrel;by_cases hlt:k<l.length
  ·obtain ⟨x,hx⟩:∃ x,Hid (l[k]?=some x):=⟨_,aab (aac hlt)⟩
   obtain ⟨b,off,hAb,hbb,o0,o1,o2,o3,o4,o5⟩:=jS (hA.below hb) hlt hx.out;subst hAb;have q:=Ye x wr;have i0:(0:Int)≤(k:Int):=(by omega);have i1:(k:Int)<(l.length:Int):=(by omega);by_cases hg:x.good=true
   ·have he:x.err=0:=if_pos hg
    rw [he] at q
    have hp':Hid (∀ z∈l.take (k+1),z.good=true):=by
     intro z hz;obtain ⟨hk,rfl⟩:=aag.1 hx.out;rw [aaB hk] at hz;rcases aaL.1 hz with hz | hz
     ·exact hp.out z hz
     ·obtain rfl:z=l[k]:=by simpa using hz
      exact hg
    clear he hg;go_wp2_with fail;refine q.mono ?_;rintro e w' ⟨rfl,b'⟩;go_wp2_with fail;exact ⟨⟨k+1,by omega,by go_num,ah hb b',hp'⟩,by simp [intOf];omega⟩
   ·have he:x.err=100:=if_neg hg
    rw [he] at q
    have hx0:Hid (v=false):=by
     show _=_;rw [Hv.out];exact abn.2 ⟨x,aam hx.out,hg⟩
    clear he hg;go_wp2_with fail;refine q.mono ?_;rintro e w' ⟨rfl,b'⟩;go_wp2_with fail;go_ret;exact ⟨aI hx0.out.symm,ah hb b'⟩
  ·have hx0:Hid (v=true):=by
    show _=_;rw [Hv.out];exact aau.2 (by have:=hp.out;rw [aaH (by omega)] at this;exact this)
   go_wp2_with fail;go_ret;exact ⟨aI hx0.out.symm,hb⟩
def nAt (n0 n1 n2:Int) (k:Fin 3):Int:=match k with | 0=>n0 | 1=>n1 | 2=>n2
def Yy (y:Ltr) (k:Fin 3) (a b:Int):Ltr:=match k with | 0=>⟨a,b,y.a1,y.b1,y.a2,y.b2⟩ | 1=>⟨y.a0,y.b0,a,b,y.a2,y.b2⟩ | 2=>⟨y.a0,y.b0,y.a1,y.b1,a,b⟩
end
section
open Go Go.RowKit
theorem X8 {w:World} {g i:Nat} {T:TypeId} {cs:Array Value} (B:Blk w g T cs) (hT:T=49∨T=3) (u:Value):KeepsW w (w.setCell ⟨g,i,none⟩ u):=fun k T' cs' h' B'=>by
 refine B'.farTy B ?_ u;rcases hT with rfl | rfl <;> rcases h' with rfl | rfl | rfl | rfl | rfl <;> decide
theorem X9 {w w2:World} {g:Nat} (k:KeepsW w w2) (hg:w.heap.size≤g) (X:Array Value):KeepsW w (w2.setRow g X):=fun k' T' cs' h' B'=>(k k' T' cs' h' B').farRow (by have:=B'.lt;omega) X
theorem Ya (X:Array Value) (o:Ofc) (rest:Int) (h:Hd) (A2:Option Addr) (c2:Nat) (inn:List Ltr) (s:TS) (t:Trn) (q:Nat) (y:Ltr) (W:World) (hG:ShaG W) (hO:Xz W X.toList o) (_irest:inI rest) (ho:h.ok) (hI:WW W A2 inn) (hT:TurnAt W W.heap.size s t) (hq:q<256) (_hyo:y.io) :
  Calls prog 5 #[.agg X,.int .i64 rest,.agg h.cl.toArray,.slice A2 inn.length c2,.agg (s.cl t),.int .u8 (q:Nat),.agg y.cl.toArray] W (Ret (.bool true) W):=by
 obtain ⟨A,c,vs,Au,cu,hX,hA,hcap,hnilA,hU,hok,hnilU,ino,isec⟩:=hO;obtain rfl:X=#[.int .i64 o.no,.int .i64 o.secret,.slice A o.chain.length c,.slice Au o.used.length cu]:=Array.toList_inj.1 hX;clear hX ino isec;obtain ⟨hI0,hio,hin⟩:=hI;have hcl:Hid (h.cl.toArray.size=42):=aab (by simpa using Hd.cl_length ho);have hone:Hid (∀ v∈h.cl.toArray.toList,v.oneCell'=true):=aab (by simpa using Hd.one h);obtain ⟨hC,hhC⟩:∃ hC,Hid (h.cl.toArray=hC):=⟨_,aab rfl⟩
 rw [hhC.out] at hcl hone ⊢;obtain ⟨a0,a1,a2,a3,a4,k0,k1,k2,k3,k4⟩:=s;have hTs:(⟨a0,a1,a2,a3,a4,k0,k1,k2,k3,k4⟩:TS).cl t=#[.slice a0 t.left.length k0,.slice a1 t.right.length k1,.slice a2 t.rl.length k2,.slice a3 t.rr.length k3,.slice a4 t.salts.length k4]:=rfl;have hys:y.cl.toArray=#[.int .i64 y.a0,.int .i64 y.b0,.int .i64 y.a1,.int .i64 y.b1,.int .i64 y.a2,.int .i64 y.b2]:=rfl;rw [hTs,hys];clear hys;have hb:=bAl (bAl (bAl (bAl (aj W) (.cells #[.int .i64 o.no,.int .i64 o.secret,.slice A o.chain.length c,.slice Au o.used.length cu] 25)) (.cells hC 33)) (.cells #[.slice a0 t.left.length k0,.slice a1 t.right.length k1,.slice a2 t.rl.length k2,.slice a3 t.rr.length k3,.slice a4 t.salts.length k4] 39)) (.cells #[.int .i64 y.a0,.int .i64 y.b0,.int .i64 y.a1,.int .i64 y.b1,.int .i64 y.a2,.int .i64 y.b2] 63);have BO:=(((Blk.new W 25 #[.int .i64 o.no,.int .i64 o.secret,.slice A o.chain.length c,.slice Au o.used.length cu] _ rfl).alloc (.cells hC 33)).alloc (.cells #[.slice a0 t.left.length k0,.slice a1 t.right.length k1,.slice a2 t.rl.length k2,.slice a3 t.rr.length k3,.slice a4 t.salts.length k4] 39)).alloc (.cells #[.int .i64 y.a0,.int .i64 y.b0,.int .i64 y.a1,.int .i64 y.b1,.int .i64 y.a2,.int .i64 y.b2] 63);have BH:=((Blk.new (W.alloc (.cells #[.int .i64 o.no,.int .i64 o.secret,.slice A o.chain.length c,.slice Au o.used.length cu] 25)) 33 hC (W.heap.size+1) (by simp)).alloc (.cells #[.slice a0 t.left.length k0,.slice a1 t.right.length k1,.slice a2 t.rl.length k2,.slice a3 t.rr.length k3,.slice a4 t.salts.length k4] 39)).alloc (.cells #[.int .i64 y.a0,.int .i64 y.b0,.int .i64 y.a1,.int .i64 y.b1,.int .i64 y.a2,.int .i64 y.b2] 63)
 have BT:=(Blk.new ((W.alloc (.cells #[.int .i64 o.no,.int .i64 o.secret,.slice A o.chain.length c,.slice Au o.used.length cu] 25)).alloc (.cells hC 33)) 39 #[.slice a0 t.left.length k0,.slice a1 t.right.length k1,.slice a2 t.rl.length k2,.slice a3 t.rr.length k3,.slice a4 t.salts.length k4] (W.heap.size+1+1) (by simp)).alloc (.cells #[.int .i64 y.a0,.int .i64 y.b0,.int .i64 y.a1,.int .i64 y.b1,.int .i64 y.a2,.int .i64 y.b2] 63);have BY:=Blk.new (((W.alloc (.cells #[.int .i64 o.no,.int .i64 o.secret,.slice A o.chain.length c,.slice Au o.used.length cu] 25)).alloc (.cells hC 33)).alloc (.cells #[.slice a0 t.left.length k0,.slice a1 t.right.length k1,.slice a2 t.rl.length k2,.slice a3 t.rr.length k3,.slice a4 t.salts.length k4] 39)) 63 #[.int .i64 y.a0,.int .i64 y.b0,.int .i64 y.a1,.int .i64 y.b1,.int .i64 y.a2,.int .i64 y.b2] (W.heap.size+1+1+1) (by simp);go_enter func5,ntmps5;go_upto_region 1 with fail;generalize (((W.alloc (.cells #[.int .i64 o.no,.int .i64 o.secret,.slice A o.chain.length c,.slice Au o.used.length cu] 25)).alloc (.cells hC 33)).alloc (.cells #[.slice a0 t.left.length k0,.slice a1 t.right.length k1,.slice a2 t.rl.length k2,.slice a3 t.rr.length k3,.slice a4 t.salts.length k4] 39)).alloc (.cells #[.int .i64 y.a0,.int .i64 y.b0,.int .i64 y.a1,.int .i64 y.b1,.int .i64 y.a2,.int .i64 y.b2] 63)=w1 at *;have q0:=Vw w1 (hG.below hb);go_wp2_with fail;refine q0.mono ?_;rintro e w2 ⟨rfl,b2⟩;clear q0;replace BO:=BO.below b2 BO.lt;replace BH:=BH.below b2 BH.lt;replace BT:=BT.below b2 BT.lt
 replace BY:=BY.below b2 BY.lt;replace hb:=ah hb b2;clear b2 w1;go_upto_region 3 with fail;have c0:=BO.cell 0;have c1:=BO.cell 1;have c2':=BO.cell 2;have c3':=BO.cell 3;have d0:=BT.cell 0;have d1:=BT.cell 1;have d2:=BT.cell 2;have d3:=BT.cell 3;have d4:=BT.cell 4;obtain ⟨g0,g1,g2,g3,g4,g5⟩:=BY.six;have q1:=PX o A Au A2 c cu inn.length c2 vs ⟨a0,a1,a2,a3,a4,k0,k1,k2,k3,k4⟩ t w2 ((hA.below hb).more hb.size);rw [hTs] at q1;by_cases hf:Jd o inn.length t=true
 case neg =>
  rw [show Jd o inn.length t=false by simpa using hf] at q1;go_wp2_with fail;refine q1.mono ?_;rintro e w3 ⟨rfl,b3⟩;go_wp2_with fail;go_ret;exact ⟨rfl,ah hb b3⟩
 rw [hf] at q1;obtain ⟨f1,f2,f3⟩:=Qd hf;replace hA:=hA.strong (fun x hx=>aaj (f2 x hx) (by omega));clear f2 hf;by_cases h0:inn.length=0
 case pos =>
  have e4:((inn.length:Int)==0)=true:=by simp [h0]
  clear h0;go_wp2_with fail;refine q1.mono ?_;rintro e w3 ⟨rfl,b3⟩;go_wp2_with fail;go_ret;exact ⟨rfl,ah hb b3⟩
 have e4:((inn.length:Int)==0)=false:=by simp;intro hx;exact h0 (by rw [hx];rfl)
 by_cases h4:inn.length≤4
 case neg =>
  have e5:decide ((4:Int)<(inn.length:Int))=true:=decide_eq_true (by omega);go_wp2_with fail;refine q1.mono ?_;rintro e w3 ⟨rfl,b3⟩;go_wp2_with fail;go_ret;exact ⟨rfl,ah hb b3⟩
 have e5:decide ((4:Int)<(inn.length:Int))=false:=decide_eq_false (by omega);go_wp2_with fail;refine q1.mono ?_;rintro e w3 ⟨rfl,b3⟩;clear q1 g0 g1 g2 g3 g4 g5 c0 c1 c2' c3' d0 d1 d2 d3 d4;replace BO:=BO.below b3 BO.lt;replace BH:=BH.below b3 BH.lt;replace BT:=BT.below b3 BT.lt;replace BY:=BY.below b3 BY.lt;replace hb:=ah hb b3;clear b3 w2;obtain ⟨g0,g1,g2,g3,g4,g5⟩:=BY.six;have bA:=bAl (aj w3) (.cells #[.int .i64 y.a0,.int .i64 y.b0,.int .i64 y.a1,.int .i64 y.b1,.int .i64 y.a2,.int .i64 y.b2] 63);have q2:=X7 (some ⟨w3.heap.size,0,none⟩) 1 1 [y] (w3.alloc (.cells #[.int .i64 y.a0,.int .i64 y.b0,.int .i64 y.a1,.int .i64 y.b1,.int .i64 y.a2,.int .i64 y.b2] 63)) (RdT.of_blk (n:=1) (sz:=6) (xs:=[y].flatMap Ltr.cl) (Blk.new w3 63 #[.int .i64 y.a0,.int .i64 y.b0,.int .i64 y.a1,.int .i64 y.b1,.int .i64 y.a2,.int .i64 y.b2] _ rfl) rfl).rd (by omega);rw [show [y].all Ltr.good=y.good by simp] at q2;cases hyg:y.good
 case false =>
  rw [hyg] at q2;clear hyg;go_wp2_with fail;refine q2.mono ?_;rintro e w4 ⟨rfl,b4⟩;go_wp2_with fail;go_ret;exact ⟨rfl,ah hb (ah bA b4)⟩
 rw [hyg] at q2;replace hyg:=aab hyg;go_wp2_with fail;refine q2.mono ?_;rintro e w4 ⟨rfl,b4⟩;replace b4:=ah bA b4;clear q2 bA g0 g1 g2 g3 g4 g5;replace BO:=BO.below b4 BO.lt;replace BH:=BH.below b4 BH.lt;replace BT:=BT.below b4 BT.lt;replace BY:=BY.below b4 BY.lt;replace hb:=ah hb b4;clear b4;have hY4:W.heap.size+1+1+1<w4.heap.size:=BY.lt;go_upto_region 5 with fail;clear e4 e5;have c0:=BO.cell 0;have c1:=BO.cell 1;have c2':=BO.cell 2;have c3':=BO.cell 3;have d0:=BT.cell 0;have d1:=BT.cell 1;have d2:=BT.cell 2;have d3:=BT.cell 3;have d4:=BT.cell 4;have LH:=bg BH underlying33 rfl (by rw [hcl.out];exact cO);have q7:=Ai o A Au A2 c cu c2 vs rest h inn ⟨a0,a1,a2,a3,a4,k0,k1,k2,k3,k4⟩ t w4 ((hA.below hb).more hb.size) (by omega) hcap hnilA ((hU.below hb).more hb.size) hok (by omega) hnilU ho ((hI0.below hb).more hb.size) (by omega) hio ((hT.below hb).more hb.size) (hG.below hb);rw [hTs,hhC.out] at q7;apply wp_region_lit
 iterate 6 go_step
 refine aP (by rfl) (by rfl) (by rfl) LH ?_;simp only [Act.put];go_wp2_with fail;refine q7.mono ?_;rintro e w6 hr;obtain ⟨b6,X1,J1,rfl,x4,x1,j49,j1,hno,hyes⟩:=hr.split;clear hr q7 c0 c1 c2' c3' d0 d1 d2 d3 d4 LH hno;obtain ⟨E,hE⟩:∃ E,Hid (dh o rest h inn t=E):=⟨_,aab rfl⟩
 rw [hE.out] at hyes ⊢;dsimp only
 (refine ‹∀ (a:Act) (w:World),wpList _ _ _ _ a w→_› _ _ ?_)
 iterate 18 go_step
 change wpList _ _ _ _ _ ((w6.alloc (.cells bK 25)).alloc (.cells bC.toArray 49));have BX:=(Blk.new w6 25 bK _ rfl).alloc (.cells bC.toArray 49);have BJ:=Blk.new (w6.alloc (.cells bK 25)) 49 bC.toArray (w6.heap.size+1) (by simp);have b67:=bAl (bAl (aj w6) (.cells bK 25)) (.cells bC.toArray 49);generalize (w6.alloc (.cells bK 25)).alloc (.cells bC.toArray 49)=w7 at *;refine aG (q := .pointer (some ⟨w6.heap.size,0,none⟩)) (v := .agg X1) (by rfl) (by rfl) (by rfl) (by rfl) (aQ BX (by rw [x4];exact iM) (by rw [x4];rfl) x1) ?_;simp only [Act.put];have BJ2:=BJ.farRowT BX (by decide) X1;refine aG (q := .pointer (some ⟨w6.heap.size+1,0,none⟩)) (v := .agg J1) (by rfl) (by rfl) (by rfl) (by rfl) (aQ BJ2 (by rw [j49];exact eG) (by rw [j49];exact dW) j1) ?_;simp only [Act.put];have BJ3:=BJ2.row J1;have b68:=below_setRow (below_setRow b67 (aad _) X1) (Nat.le_succ _) J1;clear BX BJ BJ2 b67;generalize (w7.setRow w6.heap.size X1).setRow (w6.heap.size+1) J1=w8 at *;go_upto_region 6 with fail;have BJ:=BJ3;clear BJ3 w7;have b8:=ah b6 b68;have hat:Hid (E=0→∀ w2,KeepsW w6 w2→Below w4.heap.size w4 w2→JwAt w2 w2.heap.size J1 (lh o rest h inn t)):=aab (fun h0 w2 k b=>(hyes h0 w2 k b).2);have hk:KeepsW w6 w8:=KeepsW.below b68;have h4j:w4.heap.size≤w6.heap.size:=b6.size;have bw:=b8;clear hyes b6 b68;replace BO:=BO.below b8 BO.lt;replace BT:=BT.below b8 BT.lt;replace BY:=BY.below b8 BY.lt;replace hb:=ah hb b8;clear b8 BH x4 x1;obtain ⟨jb,hjb⟩:∃ jb,w6.heap.size+1=jb:=⟨_,rfl⟩
 obtain ⟨xb,hxb⟩:∃ xb,w6.heap.size=xb:=⟨_,rfl⟩
 rw [hjb] at BJ ⊢;rw [hxb];replace h4j:w4.heap.size≤jb:=by omega
 clear hjb hxb;have c1:=BO.cell 1;have q9:=pM o.secret w8;go_wp2_with fail;refine q9.mono ?_;rintro e w9 ⟨rfl,b9⟩;clear q9 c1;replace BO:=BO.below b9 BO.lt;replace BT:=BT.below b9 BT.lt;replace BY:=BY.below b9 BY.lt;replace BJ:=BJ.below b9 BJ.lt;replace hb:=ah hb b9;replace hk:=hk.trans (KeepsW.below b9);replace bw:=ah bw b9;clear b9;by_cases hE0:E=0
 case neg =>
  have hE1:(E != 0)=true:=by simpa using hE0
  clear hE0 hat;go_wp2_with fail;go_ret;exact ⟨rfl,hb⟩
 subst hE0;replace hat:=aab (hat.out rfl);have hw:Hid (dh o rest h inn t=0):=hE;clear hE;have hsec:=zo hw.out;rw [(Gi hsec).2];obtain ⟨K,hK⟩:∃ K,Hid (pK o.secret=K):=⟨_,aab rfl⟩
 rw [hK.out];replace hsec:=aab hsec;go_upto_region 10 with fail;have hpm:((q:Int) % (inn.length:Int))=((q % inn.length:Nat):Int):=by simp
 rw [hpm];have hpn:q % inn.length<inn.length:=aaC _ (by omega);clear hpm hq;generalize q % inn.length=p at *;obtain ⟨hgood,-⟩:=iD hw.out;obtain ⟨-,-,-,hfit0⟩:=xm hw.out;have hfit:t.fit (inn.length:Int)=true:=by rw [dJ] at hfit0;exact hfit0
 have hol:(lh o rest h inn t).mix.out.length=inn.length:=(yI o rest h inn t).2.2.2.2.1
 obtain ⟨m2,n2,hJ4⟩:∃ m2 n2,J1[4]?=some (.slice m2 inn.length n2):=by
  obtain ⟨A1,A2',e1,e2,ms,hJ1,_⟩:=hat.out w9 hk bw;refine ⟨ms.a2,ms.c2,?_⟩;rw [hJ1,xG,hol]
 clear hfit0 hol;replace hJ4:=aab hJ4;replace hfit:=aab hfit;have y4:=(BJ.cell 4).trans hJ4.out;have c0:=BO.cell 0;have c1:=BO.cell 1;have c2':=BO.cell 2;have c3':=BO.cell 3;have q10:=LZ o A Au c cu vs w9 ((hA.below hb).more hb.size) (by omega) hcap ((hU.below hb).more hb.size) hok hgood;go_wp2_with fail;refine q10.mono ?_;rintro e w10 ⟨rfl,b10⟩;clear q10 y4 hgood c0 c1 c2' c3';replace BO:=BO.below b10 BO.lt;replace BT:=BT.below b10 BT.lt;replace BY:=BY.below b10 BY.lt;replace BJ:=BJ.below b10 BJ.lt;replace hb:=ah hb b10;replace hk:=hk.trans (KeepsW.below b10);replace bw:=ah bw b10;clear b10 w9;have d0:=BT.cell 0;have d1:=BT.cell 1;have d2:=BT.cell 2;have d3:=BT.cell 3;have d4:=BT.cell 4;have q11:=PY ⟨a0,a1,a2,a3,a4,k0,k1,k2,k3,k4⟩ t inn.length w10 ((hT.below hb).more hb.size) hfit.out;rw [hTs] at q11;go_wp2_with fail;refine q11.mono ?_;rintro e w11 ⟨rfl,b11⟩;clear q11 d0 d1 d2 d3 d4;replace BO:=BO.below b11 BO.lt;replace BT:=BT.below b11 BT.lt;replace BY:=BY.below b11 BY.lt;replace BJ:=BJ.below b11 BJ.lt;replace hb:=ah hb b11;replace hk:=hk.trans (KeepsW.below b11);replace bw:=ah bw b11;clear b11 w10;obtain ⟨outs,houts⟩:∃ outs,Hid (outW o rest inn t=outs):=⟨_,aab rfl⟩
 have hRo:Rd w11 w11.heap.size 6 m2 inn.length (outs.flatMap Ltr.cl):=by
  obtain ⟨A1,A2',e1,e2,ms,hJ1,_,_,hM,_⟩:=hat.out w11 hk bw;have h5:=hJ4.out;rw [hJ1,xG] at h5;injection h5 with h6
  injection h6 with h7 h8
  have h9:=hM.r2;rw [h7,h8,show (lh o rest h inn t).mix.out=outs from houts.out] at h9;exact h9
 have hlo:outs.length=inn.length:=by rw [←houts.out];exact zh
 obtain ⟨z,hz⟩:∃ z,Hid (outs[p]?=some z):=⟨_,aab (aac (by omega))⟩
 obtain ⟨bo,oo,rfl,hbo,x0,x1,x2,x3,x4,x5⟩:=jS hRo hpn hz.out;replace hlo:=aab hlo;have i2:(0:Int)≤(p:Int):=by omega
 have i3:(p:Int)<(inn.length:Int):=by omega
 have y4:=(BJ.cell 4).trans hJ4.out;go_upto_region 12 with fail;obtain ⟨g0,g1,g2,g3,g4,g5⟩:=BY.six;have hne:=Yp z y;unfold Ltr.agg at hne;cases hr:z.eqB y
 case true =>
  rw [hr] at hne;clear hr;go_quiet (fail)
  go_wp2_with fail;go_ret;exact ⟨rfl,o8 hb _⟩
 rw [hr] at hne;have hzy:Hid (z≠y):=aab (fun e=>by rw [Ltr.eqB_iff.2 e] at hr;cases hr);clear hr;go_upto_region 14 with fail;go_quiet (fail)
 clear hne x0 x1 x2 x3 x4 x5 g0 g1 g2 g3 g4 g5 y4;have bA:=o8 (aj w11) nq;go_upto_region 14 with fail;generalize w11.drewN nq=w12 at *;replace hRo:=(hRo.below bA).more bA.size;replace BO:=BO.below bA BO.lt;replace BT:=BT.below bA BT.lt;replace BY:=BY.below bA BY.lt;replace BJ:=BJ.below bA BJ.lt;replace hb:=ah hb bA;replace hk:=hk.trans (KeepsW.below bA);replace bw:=ah bw bA;clear bA;obtain ⟨A1,A2',e1,e2,ms,hJ1,-,-,-,hho⟩:=hat.out w12 hk bw;obtain ⟨B1,hB1⟩:∃ x,Hid ((lh o rest h inn t).bare=x):=⟨_,aab rfl⟩
 have y4:=((BJ.alloc (.cells #[] 63)).cell 4).trans hJ4.out;have hpos:inn.length≠0:=h0;apply wp_region_lit
 iterate 12 go_step
 refine bT (.tmp 106) (.tmp 109) 34 w12.heap.size 63 (.agg aB.cells) 6 48 (.slice (some ⟨w12.heap.size,0,none⟩) 0 0) 0 [] (some ⟨bo,oo,none⟩) inn.length n2 w12.heap.size (outs.flatMap Ltr.cl) rfl rfl underlying34 Hz rfl (by omega) rfl (Yb w12 _ _ _ (aad _)) rfl
  (hRo.alloc (aad _) _) (fun e=>by cases e) (Yi _) (by unfold maxLen;omega) (by omega) (by simp) (fun v9 w13 own9 hg9=>?_)
 simp only [Act.put];obtain ⟨g,cap,cur,rfl,hgb,BG,hnc,hcm,hcs,hct⟩:=Yg own9 (by omega);have hb89:=hg9.below (Yb w12 63 6 w12.heap.size (aad _)) (by simp);have bA:Below w12.heap.size w12 w13:=(bAl (aj w12) (.cells #[] 63)).trans hb89;have hjl:jb<w12.heap.size:=BJ.lt;have hk12:=hk;have h412:w4.heap.size≤w12.heap.size:=bw.size;replace hk:KeepsW w12 w12:=KeepsW.refl _;replace BO:=BO.below bA BO.lt;replace BT:=BT.below bA BT.lt;replace BY:=BY.below bA BY.lt;replace BJ:=BJ.below bA BJ.lt;replace hb:=ah hb bA;replace hk:=hk.trans (KeepsW.below bA);replace bw:=ah bw bA;clear bA hb89 own9 hg9 y4;have y4:=(BJ.cell 4).trans hJ4.out;have f4:=BJ.frozen 4;go_upto_region 15 with fail;clear y4 f4;have hMl:(lh o rest h inn t).mix.out.length=inn.length:=(yI o rest h inn t).2.2.2.2.1;obtain ⟨M,hM⟩:∃ M,(lh o rest h inn t).mix=M:=⟨_,rfl⟩
 obtain ⟨H,hH⟩:∃ H,(lh o rest h inn t).hand=H:=⟨_,rfl⟩
 rw [hM,hH] at hJ1;rw [hM] at hMl;rw [hH] at hho;replace hM:=aab hM;replace hH:=aab hH
 have hJ2g:∀ (A1 A2':Option Addr) (e1 e2:Nat) (ms:MS),J1=sQ A1 A2' e1 e2 (lh o rest h inn t).bare (lh o rest h inn t).proofs ms M H→J1.setIfInBounds 4 (.slice (some ⟨g,0,none⟩) inn.length cap)=sQ A1 A2' e1 e2 (lh o rest h inn t).bare (lh o rest h inn t).proofs { ms with a2:=some ⟨g,0,none⟩,c2:=cap } M H:=fun _ _ _ _ _ e=>by
  rw [e,←hMl];exact Yt _ _
 have hJ2:=hJ2g _ _ _ _ _ hJ1;replace hk:=hk.trans (X8 (i:=4) BJ (.inl rfl) (.slice (some ⟨g,0,none⟩) inn.length cap));replace bw:=bF bw (p:=⟨jb,4,none⟩) h4j (.slice (some ⟨g,0,none⟩) inn.length cap);replace hb:=bF hb (p:=⟨jb,4,none⟩) (by show W.heap.size≤jb;omega) (.slice (some ⟨g,0,none⟩) inn.length cap);replace BO:=BO.far (p:=⟨jb,4,none⟩) (by show W.heap.size≠jb;omega) (.slice (some ⟨g,0,none⟩) inn.length cap);replace BT:=BT.far (p:=⟨jb,4,none⟩) (by show W.heap.size+1+1≠jb;omega) (.slice (some ⟨g,0,none⟩) inn.length cap);replace BY:=BY.far (p:=⟨jb,4,none⟩) (by show W.heap.size+1+1+1≠jb;omega) (.slice (some ⟨g,0,none⟩) inn.length cap);replace BG:=BG.far (p:=⟨jb,4,none⟩) (by show g≠jb;omega) (.slice (some ⟨g,0,none⟩) inn.length cap);replace BJ:=BJ.set_ 4 (.slice (some ⟨g,0,none⟩) inn.length cap);generalize w13.setCell ⟨jb,4,none⟩ (.slice (some ⟨g,0,none⟩) inn.length cap)=w14 at *;generalize J1.setIfInBounds 4 (.slice (some ⟨g,0,none⟩) inn.length cap)=J2 at *;have hJ24:J2[4]?=some (.slice (some ⟨g,0,none⟩) inn.length cap):=by rw [hJ2,xG,hMl]
 replace hJ2:=aab hJ2;replace hJ2g:=aab hJ2g;have y4:=(BJ.cell 4).trans hJ24;obtain ⟨g0,g1,g2,g3,g4,g5⟩:=BY.six;obtain ⟨cur',hst,htk⟩:=X6 (l:=outs) (k:=p) (x:=y) BG hcs (by rw [hlo.out];exact hnc) (by rw [hlo.out];exact hct) (by rw [hlo.out];exact hpn);apply wp_region_lit
 iterate 18 go_step
 refine aG (q := .pointer (some ⟨g,p*6,none⟩)) (v := .agg #[.int .i64 y.a0,.int .i64 y.b0,.int .i64 y.a1,.int .i64 y.b1,.int .i64 y.a2,.int .i64 y.b2]) (by rfl) (by rfl) (by rfl) (by rfl) hst ?_;simp only [Act.put];replace hk:=X9 hk hgb cur';replace bw:=below_setRow bw (show w4.heap.size≤g by omega) cur';replace hb:=below_setRow hb (show W.heap.size≤g by omega) cur';replace BO:=BO.farRow (g':=g) (by omega) cur';replace BT:=BT.farRow (g':=g) (by omega) cur';replace BY:=BY.farRow (g':=g) (by omega) cur';replace BJ:=BJ.farRow (g':=g) (by omega) cur';replace BG:=BG.row cur';clear y4 g0 g1 g2 g3 g4 g5 hst;generalize w14.setRow g cur'=w15 at *;go_upto_region 16 with fail;have hR2:Rd w15 w15.heap.size 6 (some ⟨g,0,none⟩) inn.length ((outs.set p y).flatMap Ltr.cl):=Yr BG (by rw [←hlo.out];exact htk) (by rw [xB,List.length_set,hlo.out]);have y4:=(BJ.cell 4).trans hJ24;have hog:outs.all Ltr.good=true:=by rw [←houts.out];exact XT hw.out
 have hsg:=XZ hog hyg.out p;have hls:(outs.set p y).length=inn.length:=by rw [List.length_set,hlo.out]
 obtain ⟨outs2,hout2⟩:∃ x,Hid (outs.set p y=x):=⟨_,aab rfl⟩
 rw [hout2.out] at hR2 hsg hls;have q16:=NE (some ⟨g,0,none⟩) cap outs2 (fun x hx=>FX (aau.1 hsg x hx)) w15 (by rw [hls];exact hR2) (by omega) (hG.below hb);rw [hls] at q16;obtain ⟨D,hD⟩:∃ D,Hid (kN outs2=D):=⟨_,aab rfl⟩
 have hDo:dL D:=by rw [←hD.out];exact wO _
 rw [hD.out] at q16;unfold dig at q16;replace hsg:=aab hsg;replace hls:=aab hls;replace hog:=aab hog;go_wp2_with fail;refine q16.mono ?_;rintro e w16 ⟨rfl,b16⟩;clear q16 y4;replace hR2:=(hR2.below b16).more b16.size;replace BO:=BO.below b16 BO.lt;replace BT:=BT.below b16 BT.lt;replace BY:=BY.below b16 BY.lt;replace BJ:=BJ.below b16 BJ.lt;replace hb:=ah hb b16;replace hk:=hk.trans (KeepsW.below b16);replace bw:=ah bw b16;clear b16 BG htk;have hDl:(ag D).toArray.size=32:=by rw [aae,ai,hDo.1]
 have hJs:J2.size=49:=by rw [hJ2.out];exact XN hho
 dsimp only
 (refine ‹∀ (a:Act) (w:World),wpList _ _ _ _ a w→_› _ _ ?_)
 iterate 6 go_step
 refine aG (q := .pointer (some ⟨jb,14,none⟩)) (v := .agg (ag D).toArray) (by rfl) (by rfl) (by rfl) (by rfl) (pX (X:=(ag D).toArray) BJ (by rw [hDl];exact aW) (by rw [hJs,hDl];omega) (by intro v hv;exact aZ v (by simpa using hv))) ?_;simp only [Act.put];obtain ⟨JJ3,hJ3⟩:∃ JJ3,(J2.toList.take 14++(ag D).toArray.toList++J2.toList.drop (14+(ag D).toArray.size)).toArray=JJ3:=⟨_,rfl⟩
 have hJ3g:Hid (∀ (A1 A2':Option Addr) (e1 e2:Nat) (ms:MS),J1=sQ A1 A2' e1 e2 (lh o rest h inn t).bare (lh o rest h inn t).proofs ms M H→JJ3=sQ A1 A2' e1 e2 (lh o rest h inn t).bare (lh o rest h inn t).proofs { ms with a2:=some ⟨g,0,none⟩,c2:=cap } M { H with root:=D }):=aab (fun _ _ _ _ _ e=>by
  rw [←hJ3,hJ2g.out _ _ _ _ _ e];exact Yl hho hDo.1)
 have hJ3e:=aab (hJ3g.out _ _ _ _ _ hJ1);rw [hJ3];clear hJ3;replace hk:=hk.trans (CZ BJ (.inr rfl) JJ3);replace bw:=below_setRow bw h4j JJ3;replace hb:=below_setRow hb (show W.heap.size≤jb by omega) JJ3;replace hR2:=(Yj hR2 (show g≠jb by omega) JJ3).more (Nat.le_of_eq (setRow_size w16 jb JJ3).symm);replace BO:=BO.farRow (g':=jb) (by omega) JJ3;replace BT:=BT.farRow (g':=jb) (by omega) JJ3;replace BY:=BY.farRow (g':=jb) (by omega) JJ3;replace BJ:=BJ.row JJ3;clear hDl hJs;generalize w16.setRow jb JJ3=w17 at *;go_upto_region 17 with fail;have hho3:({ H with root:=D } : Hd).ok:=Hd.ok_root hho hDo;have LH:=Yn hho3 BJ hJ3e.out;have c1:=BO.cell 1;have hHe:H=mJ o.secret (h.for_ outs):=by rw [←hH.out,←houts.out];rfl
 have hf2:({ H with root:=D } : Hd).formed=true:=by
  have hf3:=IG hw.out outs2 (by rw [hls.out];omega);rw [hHe];unfold Hd.formed at hf3 ⊢;rw [show ((h.for_ outs2).many:Int)=({ mJ o.secret (h.for_ outs) with root:=D } : Hd).many by show (outs2.length:Int)=(outs.length:Int);rw [hls.out,hlo.out]] at hf3;exact hf3
 have q17:=NG o.secret hsec.out { H with root:=D } hho3 w17 (hG.below hb)
 have hmd:uF o.secret { H with root:=D }=mJ o.secret (h.for_ outs2):=by
  unfold uF;rw [if_pos hf2,hHe,←hD.out];exact Yv (by rw [hls.out,hlo.out])
 rw [hmd,show CE { H with root:=D }=0 by unfold CE;rw [if_pos hf2]] at q17;have hSo:(mJ o.secret (h.for_ outs2)).ok:=by rw [←hmd];unfold uF;rw [if_pos hf2];exact CG hho3
 obtain ⟨S,hS⟩:∃ S,Hid (mJ o.secret (h.for_ outs2)=S):=⟨_,aab rfl⟩
 rw [hS.out] at q17 hSo;have hS42:Hid (S.cl.toArray.size=42):=aab (by simpa using Hd.cl_length hSo);have hS1:Hid (∀ v∈S.cl.toArray.toList,v.oneCell'=true):=aab (by simpa using Hd.one S);clear hmd hf2 hHe;apply wp_region_lit
 iterate 9 go_step
 refine aP (by rfl) (by rfl) (by rfl) LH ?_;simp only [Act.put];go_wp2_with fail;refine q17.mono ?_;rintro e w18 ⟨rfl,b18⟩;clear q17 LH c1;replace hR2:=(hR2.below b18).more b18.size;replace BO:=BO.below b18 BO.lt;replace BT:=BT.below b18 BT.lt;replace BY:=BY.below b18 BY.lt;replace BJ:=BJ.below b18 BJ.lt;replace hb:=ah hb b18;replace hk:=hk.trans (KeepsW.below b18);replace bw:=ah bw b18;clear b18;dsimp only
 (refine ‹∀ (a:Act) (w:World),wpList _ _ _ _ a w→_› _ _ ?_)
 iterate 12 go_step
 refine aG (v := .agg S.cl.toArray) (by rfl) (by rfl) (by rfl) (by rfl) (bP (old:=dM.cl.toArray) (by rw [hS42.out];exact cO) (by rw [hS42.out];simpa using Hd.cl_length qg) hS1.out) ?_;simp only [Act.put];have BS:=Blk.new w18 33 S.cl.toArray _ rfl;have b19:=bAl (aj w18) (.cells S.cl.toArray 33);generalize w18.alloc (.cells S.cl.toArray 33)=w19 at *;go_upto_region 20 with fail;replace hR2:=(hR2.below b19).more b19.size;replace BO:=BO.below b19 BO.lt;replace BT:=BT.below b19 BT.lt;replace BY:=BY.below b19 BY.lt;replace BJ:=BJ.below b19 BJ.lt;replace hb:=ah hb b19;replace hk:=hk.trans (KeepsW.below b19);replace bw:=ah bw b19;clear b19;have LS:=bg BS underlying33 rfl (by rw [hS42.out];exact cO);have hJs:JJ3.size=49:=by rw [hJ3e.out];exact XN hho3
 apply wp_region_lit;refine aP (by rfl) (by rfl) (by rfl) LS ?_;simp only [Act.put]
 iterate 3 go_step
 refine aG (q := .pointer (some ⟨jb,7,none⟩)) (v := .agg S.cl.toArray) (by rfl) (by rfl) (by rfl) (by rfl) (pX (X:=S.cl.toArray) BJ (by rw [hS42.out];exact cO) (by rw [hJs,hS42.out];omega) hS1.out) ?_;simp only [Act.put];obtain ⟨JJ4,hJ4x⟩:∃ JJ4,(JJ3.toList.take 7++S.cl.toArray.toList++JJ3.toList.drop (7+S.cl.toArray.size)).toArray=JJ4:=⟨_,rfl⟩
 have hJ4g:Hid (∀ (A1 A2':Option Addr) (e1 e2:Nat) (ms:MS),J1=sQ A1 A2' e1 e2 (lh o rest h inn t).bare (lh o rest h inn t).proofs ms M H→JJ4=sQ A1 A2' e1 e2 (lh o rest h inn t).bare (lh o rest h inn t).proofs { ms with a2:=some ⟨g,0,none⟩,c2:=cap } M S):=aab (fun _ _ _ _ _ e=>by
  rw [←hJ4x,hJ3g.out _ _ _ _ _ e];exact Ym hho3 hSo)
 have hJ4s:JJ4.size=49:=by rw [hJ4g.out _ _ _ _ _ hJ1];exact XN hSo
 rw [hJ4x];clear hJ4x;replace hk:=hk.trans (CZ BJ (.inr rfl) JJ4);replace bw:=below_setRow bw h4j JJ4;replace hb:=below_setRow hb (show W.heap.size≤jb by omega) JJ4;replace hR2:=(Yj hR2 (show g≠jb by omega) JJ4).more (Nat.le_of_eq (setRow_size w19 jb JJ4).symm);replace BO:=BO.farRow (g':=jb) (by omega) JJ4;replace BT:=BT.farRow (g':=jb) (by omega) JJ4;replace BY:=BY.farRow (g':=jb) (by omega) JJ4;replace BJ:=BJ.row JJ4;clear BS LS hJs;generalize w19.setRow jb JJ4=w20 at *
 have hat2:Hid (∀ w2,Below w20.heap.size w20 w2→JwAt w2 w2.heap.size JJ4 (XM o rest h inn t p y)):=aab (fun w2 b=>by
  obtain ⟨A1b,A2b,e1b,e2b,msb,hJb,r1,r2,hMx,-⟩:=hat.out w2 (hk12.trans (hk.trans (KeepsW.below b))) (ah bw b);rw [hM.out,hH.out] at hJb;rw [hM.out] at hMx;have e4:=hJ4g.out _ _ _ _ _ hJb;have hmix:(XM o rest h inn t p y).mix=M.withOut outs2:=by unfold XM;rw [houts.out,hout2.out,←hM.out];rfl
  have hhand:(XM o rest h inn t p y).hand=S:=by
   show mJ o.secret (h.for_ ((outW o rest inn t).set p y))=S;rw [houts.out,hout2.out];exact hS.out
  refine ⟨A1b,A2b,e1b,e2b,{ msb with a2:=some ⟨g,0,none⟩,c2:=cap },?_,r1,r2,?_,by rw [hhand];exact hSo⟩
  ·rw [hmix,hhand,←Yk (by rw [hls.out,hMl])];exact e4
  ·rw [hmix]
   exact ⟨hMx.r0,hMx.r1,by show Rd _ _ _ _ outs2.length _;rw [hls.out];exact (hR2.below b).more b.size,hMx.r3,hMx.r4,hMx.d3,hMx.d4⟩)
 clear hR2 hJ1 hJ2 hJ2g hJ3g hJ3e hJ4g hho hho3 hSo hS42 hS1 hMl hat hk hk12 hDo hcs hct hnc hcm;go_upto_region 21 with fail;have hmk:=fun w=>Ko inn.length (by omega) w;go_upto_region 22 with fail;have htr:t.right.length=inn.length:=(Trn.fit_of hfit.out).1.2.1;have hzl:(bV inn.length).length=inn.length:=List.length_replicate;have BA:=Blk.new w20 3 (ints (bV inn.length)).toArray _ rfl;have b21:=bAl (aj w20) (.cells (ints (bV inn.length)).toArray 3);change Code.wp _ _ _ _ (w20.alloc (.cells (ints (bV inn.length)).toArray 3));generalize w20.alloc (.cells (ints (bV inn.length)).toArray 3)=w21 at *;have BT1:=BT.below b21 BT.lt;have d0:=BT1.cell 0;have d1:=BT1.cell 1;have d2:=BT1.cell 2;have d3:=BT1.cell 3;have d4:=BT1.cell 4;have q22:=Nl ⟨a0,a1,a2,a3,a4,k0,k1,k2,k3,k4⟩ t (some ⟨w20.heap.size,0,none⟩) inn.length (bV inn.length) w21 ((hT.below (ah hb b21)).more (ah hb b21).size) (by rw [hzl];exact (RdT.of_blk (n:=inn.length) (xs:=ints (bV inn.length)) BA (by rw [lU,hzl,aaA])).rd) (by rw [hzl];omega);rw [hTs,hzl] at q22;have hop:sD t (bV inn.length)=0:=by unfold sD;rw [hzl,if_pos hfit.out,if_pos (XO _)]
 replace htr:=aab htr;replace hzl:=aab hzl;go_wp2_with fail;refine q22.mono ?_;rintro e w22 ⟨b22,-,hy⟩;obtain ⟨ov,rfl,own⟩:=hy hop;clear hy hop q22 d0 d1 d2 d3 d4 BT1;rw [hzl.out] at own
 obtain ⟨D0,dc0,rfl,hcd0,hn0⟩:∃ D0 dc0,ov = .slice D0 inn.length dc0∧inn.length≤dc0∧True:=by
  obtain ⟨D,dc,e,r,hc,_⟩:=Sl.of_own own;exact ⟨D,dc,e,hc,trivial⟩
 have hbt:=ah b21 b22;have h2021:w20.heap.size<w21.heap.size:=BA.lt;replace BA:=BA.below b22 BA.lt;rw [show bV inn.length=bi t.right p 0 by rw [XQ,htr.out]] at BA;clear b21 b22 hcd0 hn0;go_upto_region 23 with fail;go_wp2_with fail;go_loopw [148] (fun i wr=>∃ k:Nat,k≤inn.length∧i = .int .i64 k∧Below w20.heap.size w20 wr∧Blk wr w20.heap.size 3 (ints (bi t.right p k)).toArray∧wr.ownsRow w21.heap.size 158 36 (.slice D0 inn.length dc0) inn.length ((t.opens (bV inn.length)).flatMap Opn.cl)) (fun i _=>inn.length - (intOf i).toNat)
 case atStart=>exact ⟨0,aao _,rfl,hbt,BA,own⟩
 case round =>
  clear hbt BA own;obtain ⟨k,hkn,rfl,hbt,BA,own⟩:=hrel;by_cases hlt:k<inn.length
  ·obtain ⟨r,hr⟩:∃ r,Hid (t.right[k]?=some r):=⟨_,aab (aac (by rw [htr.out];exact hlt))⟩
   have d1:=(BT.below hbt BT.lt).cell 1;rw [htr.out] at d1;obtain ⟨b1,o1,rfl,hb1,hc1⟩:=hT.r1.2 (by rw [htr.out];omega);have z1:wr.cell? ⟨b1,o1+k,none⟩=some (.int .i64 r):=((ah hb hbt).cell (p:=⟨b1,o1+k,none⟩) hb1).trans (hc1 k _ (ints_at hr.out));have i2:(0:Int)≤(k:Int):=(by omega);have i3:(k:Int)<(inn.length:Int):=(by omega);have a1':wr.cell? ⟨w20.heap.size,k,none⟩=some (.int .i64 0):=(BA.cell k).trans (by rw [aaG];exact ints_at (XW (by rw [htr.out];exact hlt)));have f1':=BA.frozen k;have hsu:=aab (XR (p:=p) hr.out);clear hc1;by_cases hrp:r=(p:Int)
   ·have hrp1:(r==(p:Int))=true:=by simpa using hrp
    have hsu2:Hid (bi t.right p (k+1)=(bi t.right p k).set k 1):=aab (by rw [hsu.out,if_pos hrp]);clear hrp hsu;go_wp2_with fail
    exact ⟨⟨k+1,by omega,by go_num,hbt.setCell (p:=⟨w20.heap.size,k,none⟩) (aad _) _,by
     rw [hsu2.out]
     have:=BA.set_ k (.int .i64 1)
     rwa [ints_set] at this,ownsRow_setCell_below own h2021 _⟩,by simp [intOf];omega⟩
   ·have hrp1:(r==(p:Int))=false:=by simpa using hrp
    have hsu2:Hid (bi t.right p (k+1)=bi t.right p k):=aab (by rw [hsu.out,if_neg hrp]);clear hrp hsu;go_wp2_with fail;exact ⟨⟨k+1,by omega,by go_num,hbt,by rw [hsu2.out];exact BA,own⟩,by simp [intOf];omega⟩
  ·obtain rfl:k=inn.length:=by omega
   rw [show bi t.right p inn.length=pg t.right p by rw [←htr.out,XV]] at BA;clear hlt hkn;have hol1:(pg t.right p).length=inn.length:=(by unfold pg;rw [aaQ,htr.out]);have BT1:=BT.below hbt BT.lt;have d0:=BT1.cell 0;have d1:=BT1.cell 1;have d2:=BT1.cell 2;have d3:=BT1.cell 3;have d4:=BT1.cell 4;have q29:=Nl ⟨a0,a1,a2,a3,a4,k0,k1,k2,k3,k4⟩ t (some ⟨w20.heap.size,0,none⟩) inn.length (pg t.right p) wr ((hT.below (ah hb hbt)).more (ah hb hbt).size) (by rw [hol1];exact (RdT.of_blk (n:=inn.length) (xs:=ints (pg t.right p)) BA (by rw [lU,hol1,aaA])).rd) (by rw [hol1];omega);rw [hTs,hol1] at q29;have hop:sD t (pg t.right p)=0:=(by unfold sD;rw [hol1,if_pos hfit.out,if_pos (XY _ _)]);replace hol1:=aab hol1;go_upto_region 29 with fail;go_wp2_with fail;refine q29.mono ?_;rintro e w24 ⟨b24,-,hy⟩;obtain ⟨ov,rfl,own1⟩:=hy hop;clear hy hop q29 d0 d1 d2 d3 d4 BT1;rw [hol1.out] at own1
   obtain ⟨D1,dc1,rfl,hD1⟩:∃ D1 dc1,ov = .slice D1 inn.length dc1∧Rd w24 w24.heap.size 36 D1 inn.length ((t.opens (pg t.right p)).flatMap Opn.cl):=by
    obtain ⟨D,dc,e,r,_⟩:=Sl.of_own own1;exact ⟨D,dc,e,r⟩
   obtain ⟨D0',dc0',e0,hD0,-⟩:=Sl.of_own (aC own b24);obtain ⟨e1',-,e3'⟩:=Value.slice.inj e0;subst e1';subst e3';replace hbt:=ah hbt b24;have h20:w20.heap.size<w24.heap.size:=aaS BA.lt b24.size;replace BA:=BA.below b24 BA.lt;clear own own1 b24;have KS:Hid (∀ w',Below w24.heap.size w24 w'→(Instr.loadAt 49 (.pointer (some ⟨jb,0,none⟩))).run prog w' = .ok (.agg JJ4) w'):=aab (fun w' b=>bg (BJ.below (ah hbt b) BJ.lt) underlying49 rfl (by rw [hJ4s];exact eG))
   have hpz:∀ z,(outW o rest inn t)[p]?=some z→z≠y:=fun z' hz'=>by
    rw [houts.out,hz.out] at hz';injection hz' with hz'
    rw [←hz'];exact hzy.out
   have hlens:=Yo o rest h inn t p y;have hKi:inI K:=by rw [←hK.out,(Gi hsec.out).1];exact rW _ _
   have qjj:∀ (bits:List Int) (v:Int) (D:Option Addr) (dc:Nat) (w':World) (gyy:Nat),bits.length=inn.length→jc (pK o.secret) rest inn (XM o rest h inn t p y) bits (t.opens bits)=v→Below w24.heap.size w24 w'→Blk w' gyy 3 (ints bits).toArray→Rd w24 w24.heap.size 36 D inn.length ((t.opens bits).flatMap Opn.cl) →
     Calls prog 20 #[.int .i64 K,.int .i64 rest,.slice A2 inn.length c2,.agg JJ4,.slice (some ⟨gyy,0,none⟩) inn.length inn.length,.slice D inn.length dc] w' (Ret (.int .i64 v) w'):=fun bits v D dc w' gyy hl hv b By hR=>by
    have hw':=ah hb (ah hbt b)
    have h1:=xC K rest hKi A2 (some ⟨gyy,0,none⟩) D c2 inn.length dc inn JJ4 (XM o rest h inn t p y) bits (t.opens bits) w' ((hI0.below hw').more hw'.size) (hat2.out w' (ah hbt b))
     (by rw [hl];exact (RdT.of_blk (n:=inn.length) (xs:=ints bits) By (by rw [lU,hl,aaA])).rd) (by rw [Trn.opens_length,hl];exact (hR.below b).more b.size) (Un hT (by rw [hl];exact hfit.out))
     (by obtain ⟨l1,l2,_⟩:=hlens;rw [l1,l2,Trn.opens_length,hl];omega) (by obtain ⟨l1,l2,l3,l4,l5,l6,l7⟩:=hlens;rw [l3,l4,l5,l6,l7];omega) (hG.below hw')
    rw [←hK.out,hv,hK.out,Trn.opens_length,hl] at h1;exact h1
   have qa:=aab (fun w' gyy b By=>qjj (bV inn.length) 0 D0 dc0 w' gyy hzl.out (XU hw.out hyg.out p) b By hD0);have qb:=aab (fun w' b=>qjj (pg t.right p) 4 D1 dc1 w' w20.heap.size hol1.out (XP hw.out hpn hpz) b (BA.below b BA.lt) hD1);clear qjj;replace hlens:=aab hlens;clear hpz hD0 hD1 BA hlens hsec hK hat2;go_upto_region 30 with fail;refine fA (g:=0) KS [(0,1),(1,1),(2,1),(3,1),(4,1),(5,1),(6,1),(7,1),(8,1),(9,1),(10,2),(11,1),(12,1),(14,1),(13,0),(15,0),(16,1),(17,1),(18,1),(19,1),(20,1),(21,1),(22,2),(23,1),(24,1),(25,0),(26,1),(27,1),(28,0)] ?_;simp only [bf,aap,aar];refine ae ?_;refine ae ?_;refine ae ?_;refine ae ?_;refine ae ?_;refine ae ?_;refine ae ?_;refine ae ?_;refine ae ?_;refine ae ?_;refine az (v:=?vq1) (hv:=?hq1) ?_;case hq1=>(intro w hSw;(first | refine (af rfl rfl hSw).trans ?_ | refine (af rfl rfl hSw.1).trans ?_ | refine (af rfl rfl hSw.2.1).trans ?_ | refine (af rfl rfl hSw.2.2.1).trans ?_ | refine (af rfl rfl hSw.2).trans ?_ | refine (af rfl rfl hSw.2.2).trans ?_);with_reducible rfl)
   refine ae ?_;refine ae ?_;refine ae ?_;refine bW (fun K hK=>?_);go_simp;refine aH hK KS ?_;clear hK K;refine bW (fun K hK=>?_);go_simp;(go_at_call 20;(with_reducible refine (qa.out _ _ (by with_reducible exact bDr (bAl (aj _) _)) (by exact Blk.dr (Blk.new _ _ _ _ rfl))).mono ?_);rintro e w6 ⟨rfl,b6⟩;have B6:Below w24.heap.size w24 w6:=ah (bDr (bAl (aj _) _)) b6);refine aH hK KS ?_;clear hK K;refine ae ?_;refine ae ?_;refine ae ?_;refine ae ?_;refine ae ?_;refine ae ?_;refine az (v:=?vq2) (hv:=?hq2) ?_;case hq2=>(intro w hSw;(first | refine (af rfl rfl hSw).trans ?_ | refine (af rfl rfl hSw.1).trans ?_ | refine (af rfl rfl hSw.2.1).trans ?_ | refine (af rfl rfl hSw.2.2.1).trans ?_ | refine (af rfl rfl hSw.2).trans ?_ | refine (af rfl rfl hSw.2.2).trans ?_);with_reducible rfl)
   refine ae ?_;refine ae ?_;refine bW (fun K hK=>?_);go_simp;(go_at_call 20;(with_reducible refine (qb.out _ B6).mono ?_);rintro e w7 ⟨rfl,b7⟩;have B7:Below w24.heap.size w24 w7:=ah B6 b7);refine aH hK KS ?_;clear hK K;refine ae ?_;refine ae ?_;refine bW (fun K hK=>?_);go_simp;refine aH hK KS ?_;clear hK K;refine jk ?_;refine NoPanic.normal ?_;go_wp2_with fail;go_ret;exact ⟨rfl,ah hb (ah hbt B7)⟩
end
end Go.Proofs.YthbibbkbaphpkaaGreatDoor

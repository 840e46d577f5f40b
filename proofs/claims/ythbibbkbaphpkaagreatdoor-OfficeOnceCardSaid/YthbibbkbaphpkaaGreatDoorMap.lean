/- A region that draws, inside an iterator, and whose last operations (a yield) come behind all the rest: the rest by a schedule, the last ones in their order. -/
import Derived.Test.YthbibbkbaphpkaaGreatDoorMam
import Derived.Test.YthbibbkbaphpkaaGreatDoorMao
set_option maxHeartbeats 16000000
set_option maxRecDepth 1000000
namespace Go.Proofs.YthbibbkbaphpkaaGreatDoor
open _root_.Go.Proofs.Tryz
section
open Go Go.RowKit
section
variable {P:Program} {n:Nat} {Q:Exit→Act→World→Prop} {T:Act→World→Prop}
def Qp (T:Act→World→Prop):Exit→Act→World→Prop
 | .normal,a,w=>T a w
 | _,_,_=>False
theorem Nw (h:LetsOut (Qp T)):False:=by
 obtain ⟨a,w,h⟩:=h;exact h
theorem Px {o:Oper} {a:Act} {w:World} {K K':Act→World→Prop} (hK:∀ a w,K a w→K' a w) (h:o.wp P a w K (Qp T)):o.wpIn Fence.wide n P a w K' Q:=by
 refine ⟨fun _ _=>trivial,?_⟩;rw [show o.semAt Fence.wide.round a.eval=execOp a.eval o from rfl];unfold Oper.wp at h
 revert h
 generalize (execOp a.eval o).run P w=r;intro h;cases r with
 | ok x w' =>
  cases x with
  | value v=>exact hK _ _ h
  | skip=>exact hK _ _ h
  | defer d=>exact hK _ _ h
  | enter f args =>
   refine ⟨fun hd=>(by cases hd),callsIn_wide.2 (Calls.mono h ?_)⟩;intro e w'' hp;cases e with
   | returned v=>exact hK _ _ hp
   | panicked ch=>exact (hp:False).elim
   | outgrown=>exact (Nw hp).elim
  | row row args =>
   refine ⟨fun hd=>(by cases hd),fun c cs _=>?_⟩;obtain ⟨v,w'',hr,hs⟩:=h c cs;exact ⟨v,w'',hK _ _ hr,stepsIn_wide.2 hs⟩
  | _=>exact h.elim
 | halt x w' =>
  cases x with
  | panic v=>exact (h:False).elim
  | _=>exact h.elim
def oI (ops:Array Oper) (p:Nat):Bool :=
 ((List.range ops.size).all fun i => match ops[i]? with
   | some o=>o.guard.isNone&&o.after.all (fun e=>!(Region.binds .any e)||decide (e.on<i))
   | none=>true) &&
 ((List.range p).all fun k=>vZ .any ops p k (nP .any ops p 6 k)) &&
 ((List.range ops.size).all fun i=>decide (i≤p)||Region.waitsFor .any ops i (i - 1))&&decide (p<ops.size)
theorem oh {ops:Array Oper} {p i:Nat} {o:Oper} (h:oI ops p=true) (ho:ops[i]?=some o):o.guard=none∧∀ e∈o.after,Region.binds .any e=true→e.on<i:=by
 have hi:=(aaI.1 ho).1;simp only [oI,aal,aau,aaE] at h;have h1:=h.1.1.1 i hi;rw [ho] at h1;simp only [aal,Option.isNone_iff_eq_none,abC] at h1;refine ⟨h1.1,fun e he hb=>?_⟩
 have:=h1.2 e he
 rw [hb] at this;simpa using this
theorem Kw {ops:Array Oper} {p k:Nat} (h:oI ops p=true) (hk:k<p):vZ .any ops p k (nP .any ops p 6 k)=true:=by
 simp only [oI,aal,aau,aaE] at h;exact h.1.1.2 k hk
theorem Ci {ops:Array Oper} {p i:Nat} (h:oI ops p=true) (hi:i<ops.size) (hp:p<i):Region.waitsFor .any ops i (i - 1)=true:=by
 simp only [oI,aal,aau,aaE] at h
 have:=h.1.2 i hi
 rw [decide_eq_false (by omega),Bool.false_or] at this;exact this
theorem wZ {ops:Array Oper} {p:Nat} (h:oI ops p=true):p<ops.size:=by
 simp only [oI,aal,decide_eq_true_eq] at h;exact h.2
theorem least:∀ {U:List Nat},U≠[]→∃ m∈U,∀ k∈U,m≤k
 | [x],_=>⟨x,by simp,by simp⟩
 | x::y::l,_=>by
  obtain ⟨m,hm,hl⟩:=least (U:=y::l) (by simp);by_cases h:x≤m
  ·exact ⟨x,by simp,fun k hk=>by
    rcases aaq.1 hk with rfl | hk
    ·exact aad _
    ·exact aaj h (hl k hk)⟩
  ·exact ⟨m,aa8 _ hm,fun k hk=>by
    rcases aaq.1 hk with rfl | hk
    ·omega
    ·exact hl k hk⟩
structure Unl (ops:Array Oper) (p:Nat) (U:List Nat) (lp la:Array Bool):Prop where
 nd:U.Nodup
 lt:∀ x∈U,x<p
 pre:∀ i,i<p→lp.getD i true=decide (i ∉ U)
 all:∀ i,i<p→la.getD i true=decide (i ∉ U)
 tail:∀ i,p≤i→i<ops.size→la.getD i true=false
 sp:lp.size=p
 sa:la.size=ops.size
theorem mY {la:Array Bool} {i:Nat} (h:i<la.size):la.getD i true=la.getD i false:=by
 simp [Array.getD,h]
theorem Unl.set {ops:Array Oper} {p i:Nat} {U:List Nat} {lp la:Array Bool} (h:Unl ops p U lp la) (hp:p<ops.size) (hi:i∈U):Unl ops p (U.erase i) (lp.setIfInBounds i true) (la.setIfInBounds i true):=by
 have hip:=h.lt i hi;refine ⟨h.nd.erase i,fun x hx=>h.lt x (List.mem_of_mem_erase hx),fun j hj=>?_,fun j hj=>?_,fun j hj hj2=>?_,by simp [h.sp],by simp [h.sa]⟩
 ·by_cases hij : i = j
  ·subst hij
   rw [decide_eq_true (by rw [h.nd.mem_erase_iff];simp)]
   have:=h.sp
   simp [Array.getD,hip,this]
  ·rw [getD_set_ne true hij,h.pre j hj]
   exact decide_eq_decide.2 (by rw [h.nd.mem_erase_iff];simp [Ne.symm hij])
 ·by_cases hij : i = j
  ·subst hij
   rw [decide_eq_true (by rw [h.nd.mem_erase_iff];simp)]
   have:=h.sa
   simp [Array.getD,this,show i<ops.size by omega]
  ·rw [getD_set_ne true hij,h.all j hj]
   exact decide_eq_decide.2 (by rw [h.nd.mem_erase_iff];simp [Ne.symm hij])
 ·rw [getD_set_ne true (by omega),h.tail j hj hj2]
theorem Ky {ops:Array Oper} {p:Nat} {U:List Nat} {lp la:Array Bool} (hT:oI ops p=true) (h:Unl ops p U lp la) (hc:Clo .any ops la) (hU:U≠[]) (i:Nat):i∈Region.ready .any ops la↔i∈Region.ready .any (ops.extract 0 p) lp:=by
 have hp:=wZ hT;have hpre:∀ j,j<p→(ops.extract 0 p)[j]?=ops[j]?:=fun j hj=>by rw [Array.getElem?_extract];simp;omega
 constructor
 ·intro hi
  obtain ⟨h1,o,ho,hall⟩:=mem_ready.1 hi;have hio:=(aaI.1 ho).1
  have hlt:i<p:=by
   rcases aa0 i p with hlt | hge
   ·exact hlt
   ·exfalso
    obtain ⟨m,hm,_⟩:=least hU;have hmp:=h.lt m hm;have hm0:la.getD m true=false:=(by rw [h.all m hmp];simpa using hm);rcases Nat.eq_or_lt_of_le hge with rfl | hgt
    ·have:=pO (hc.set hi) _ m (Kw hT hmp) (by rw [getD_set_ne true (by omega)];exact hm0)
     rw [mY (by simp [hc.1];omega)] at this;simp [Array.getD,hc.1,hio] at this
    ·obtain ⟨o',ho',e,he,hb,hon⟩:=Region.waitsFor_spec (Ci hT hio hgt)
     rw [ho] at ho';injection ho' with ho'
     subst ho';have h2:=hall e he hb;rw [hon,←mY (by rw [hc.1];omega),h.tail (i - 1) (by omega) (by omega)] at h2;cases h2
  refine mem_ready.2 ⟨by rw [h.pre i hlt,←h.all i hlt];exact h1,o,by rw [hpre i hlt];exact ho,fun e he hb=>?_⟩;have hon:=(oh hT ho).2 e he hb
  have:=hall e he hb
  rw [←mY (by rw [h.sp];omega),h.pre _ (by omega),←h.all _ (by omega),mY (by rw [hc.1];omega)];exact this
 ·intro hi
  obtain ⟨h1,o,ho,hall⟩:=mem_ready.1 hi
  have hlt:i<p:=by
   have:=(aaI.1 ho).1
   simp at this;omega
  rw [hpre i hlt] at ho;refine mem_ready.2 ⟨by rw [h.all i hlt,←h.pre i hlt];exact h1,o,ho,fun e he hb=>?_⟩;have hon:=(oh hT ho).2 e he hb
  have:=hall e he hb
  rw [←mY (by rw [hc.1];omega),h.all _ (by omega),←h.pre _ (by omega),mY (by rw [h.sp];omega)];exact this
theorem Iq {ops:Array Oper} {p:Nat} {U:List Nat} {lp la:Array Bool} (hT:oI ops p=true) (h:Unl ops p U lp la) (hU:U≠[]):Region.ready .any ops la≠[]:=by
 have hp:=wZ hT;obtain ⟨m,hm,hl⟩:=least hU;have hmp:=h.lt m hm;obtain ⟨o,ho⟩:∃ o,ops[m]?=some o:=⟨_,abd (by omega)⟩
 have:m∈Region.ready .any ops la:=mem_ready.2 ⟨by rw [h.all m hmp];simpa using hm,o,ho,fun e he hb=>by
  have hon:=(oh hT ho).2 e he hb;rw [←mY (by rw [h.sa];omega),h.all _ (by omega)];refine decide_eq_true fun hin=>?_
  have:=hl _ hin
  omega⟩
 intro e;rw [e] at this;cases this
theorem Ny {ops:Array Oper} {p:Nat} (hT:oI ops p=true):∀ (s q t:Nat) (la:Array Bool),p≤q→q+s=ops.size→la.size=ops.size→(∀ i,i<q→la.getD i true=true)→(∀ i,q≤i→i<ops.size→la.getD i true=false) →
  Region.linearise.go .any ops s t la []=List.range' q s
 | 0,q,t,la,_,_,_,_,_=>rfl
 | s+1,q,t,la,hpq,hqs,hsz,h1,h2=>by
  have hr:Region.ready .any ops la=[q]:=by
   have hmem:∀ i,i∈Region.ready .any ops la↔i=q:=fun i=>by
    constructor
    ·intro hi
     obtain ⟨hu,o,ho,hall⟩:=mem_ready.1 hi;have hio:=(aaI.1 ho).1;rcases Nat.lt_trichotomy i q with hlt | rfl | hgt
     ·rw [h1 i hlt] at hu;cases hu
     ·rfl
     ·obtain ⟨o',ho',e,he,hb,hon⟩:=Region.waitsFor_spec (Ci hT hio (by omega))
      rw [ho] at ho';injection ho' with ho'
      subst ho';have h3:=hall e he hb;rw [hon,←mY (by omega),h2 (i - 1) (by omega) (by omega)] at h3;cases h3
    ·rintro rfl
     obtain ⟨o,ho⟩:∃ o,ops[i]?=some o:=⟨_,abd (by omega)⟩
     exact mem_ready.2 ⟨h2 i (aad _) (by omega),o,ho,fun e he hb=>by
      have hon:=(oh hT ho).2 e he hb;rw [←mY (by omega)];exact h1 _ hon⟩
   have hnd:(Region.ready .any ops la).Nodup:=List.Pairwise.filter _ List.nodup_range;generalize Region.ready .any ops la=R at *
   match R,hmem,hnd with
   | [],hm,_=>have:=(hm q).2 rfl;cases this
   | [x],hm,_=>rw [(hm x).1 (by simp)]
   | x::y::l,hm,hd =>
    have e1:=(hm x).1 (by simp);have e2:=(hm y).1 (by simp);subst e1;subst e2;simp at hd
  simp only [Region.linearise.go]
  change (match (Region.ready .any ops la)[t % (Region.ready .any ops la).length]? with
   | some i=>Region.linearise.go .any ops s (t / (Region.ready .any ops la).length) (la.setIfInBounds i true) [i]
   | none=>[].reverse)=_
  rw [hr];simp only [aas,List.length_nil,aax,Nat.mod_one,aap];rw [linearise_go_acc,List.reverse_singleton,List.singleton_append,List.range'_succ];refine congrArg _ (Ny hT s (q+1) _ _ (by omega) (by omega) (by simp [hsz]) (fun i hi=>?_) (fun i hi hi2=>?_))
  ·by_cases hqi:q=i
   ·subst hqi;simp [Array.getD,hsz]
   ·rw [getD_set_ne true hqi];exact h1 i (by omega)
  ·rw [getD_set_ne true (by omega)];exact h2 i (by omega) hi2
theorem Ir {ops:Array Oper} {p s:Nat} (hT:oI ops p=true) (hs:p+s=ops.size):∀ (g t:Nat) (U:List Nat) (lp la:Array Bool) (a:Act) (w:World),U.length=g→Unl ops p U lp la→Clo .any ops la →
  wpAny P .any (ops.extract 0 p) (Qp (wpOpsIn Fence.wide n P ops Q (List.range' p s))) g lp a w→wpOpsIn Fence.wide n P ops Q (Region.linearise.go .any ops (g+s) t la []) a w
 | 0,t,U,lp,la,a,w,hg,hU,hc,h=>by
  obtain rfl:U=[]:=abo.1 hg;rw [aax,Ny hT s p t la (aad _) hs hU.sa (fun i hi=>by rw [hU.all i hi];simp) hU.tail];exact h.2
 | g+1,t,U,lp,la,a,w,hg,hU,hc,h=>by
  have hne:U≠[]:=fun e=>by rw [e] at hg;cases hg
  have hrn:=Iq hT hU hne;have hp:=wZ hT;obtain ⟨_,h1⟩:=h;rw [show g+1+s=(g+s)+1 by omega];simp only [Region.linearise.go]
  change wpOpsIn Fence.wide n P ops Q (match (Region.ready .any ops la)[t % (Region.ready .any ops la).length]? with
   | some i=>Region.linearise.go .any ops (g+s) (t / (Region.ready .any ops la).length) (la.setIfInBounds i true) [i]
   | none=>[].reverse) a w
  cases hi:(Region.ready .any ops la)[t % (Region.ready .any ops la).length]? with
  | none =>
   exfalso;apply hrn;cases hr:Region.ready .any ops la with
   | nil=>rfl
   | cons x xs =>
    rw [hr] at hi;have hlt:t % (x::xs).length<(x::xs).length:=aaC _ (by simp);simp at hi;simp at hlt;omega
  | some i =>
   have hia:=aam hi;have hip:=(Ky hT hU hc hne i).1 hia;simp only [];rw [linearise_go_acc,List.reverse_singleton,List.singleton_append];have hw:=h1 i hip;obtain ⟨hui,o,ho,_⟩:=mem_ready.1 hia;obtain ⟨_,o',ho',_⟩:=mem_ready.1 hip
   have hlt:i<p:=by
    have:=(aaI.1 ho').1
    simp at this;omega
   have hiU:i∈U:=(by rw [hU.all i hlt] at hui;simpa using hui);have hoo:(ops.extract 0 p)[i]?=ops[i]?:=(by rw [Array.getElem?_extract];simp;omega);have hgd:=(oh hT ho).1;unfold wpOp at hw;rw [hoo,ho] at hw;simp only [Region.wanted,hgd,if_true] at hw;simp only [wpOpsIn,ho,Region.wanted,hgd,if_true];rcases hw with hw | hw
   ·exact Px (fun a' w' h'=>Ir hT hs g _ (U.erase i) _ _ a' w' (by rw [List.length_erase_of_mem hiU,hg];rfl) (hU.set hp hiU) (hc.set hia) h') hw
   ·exact (Nw hw.2).elim
theorem yx {id p:Nat} {l:List Oper} {a:Act} {w:World} (hm:P.follows .mixedOrders=true) (hT:oI l.toArray p=true)
  (h5:wpAny P .any (l.take p).toArray (Qp (wpListIn Fence.wide n P l.toArray Q (l.drop p))) p (Array.replicate p false) a w.drew):(Code.region id l.toArray true).wpIn Fence.wide n P Q a w:=by
 refine wpIn_region_draw fun t=>?_;simp only [Region.schedule,hm,Bool.true_or,if_true];have hp:=wZ hT;have hpl:p<l.length:=by simpa using hp
 have hTl:wpListIn Fence.wide n P l.toArray Q (l.drop p)=wpOpsIn Fence.wide n P l.toArray Q (List.range' p (l.length - p)):=by
  have:=wpOpsIn_eq_wpListIn (F:=Fence.wide) (n:=n) (P:=P) (ops:=l.toArray) (Q:=Q) (l.drop p) p (fun j=>by simp)
  rw [aa1] at this;exact this.symm
 have he:(l.take p).toArray=l.toArray.extract 0 p:=by simp
 rw [hTl,he] at h5
 have h6:=Ir (n:=n) (s:=l.length - p) hT (by simp;omega) p t (List.range p) _ (Array.replicate l.toArray.size false) a w.drew (by simp) ⟨List.nodup_range,by simp,fun i hi=>by simp [Array.getD,hi],fun i hi=>by simp [Array.getD,hi];omega,fun i hi hi2=>by simp [Array.getD];simpa using hi2,by simp,by simp⟩
  ⟨by simp,fun j oj hj hl=>by simp [Array.getD] at hl⟩ h5
 rw [show p+(l.length - p)=l.toArray.size by simp;omega] at h6;exact h6
theorem xe {S:World→Prop} {w0:World} {id g:Nat} {l:List Oper} {a:Act} {w:World} (KS:Hid (∀ w',Below w0.heap.size w0 w'→S w')) (p:Nat) (s:List (Nat×Nat))
  (h:dG P .any (l.take p).toArray (Qp (wpListIn Fence.wide n P l.toArray Q (l.drop p))) S g (pY s (Array.replicate p false)) (bf s (l.take p)) a w.drew)
  (hm:P.follows .mixedOrders=true:=by kernel_rfl) (hB:(Region.noSelect (l.take p).toArray&&(decide (s.length+g=p)&&lg .any (l.take p).toArray s (Array.replicate p false)))=true:=by kernel_rfl) (hT:oI l.toArray p=true:=by kernel_rfl)
  (hb:Below w0.heap.size w0 w.drew:=by (repeat (first | with_reducible assumption | with_reducible exact aj _ | with_reducible refine bDr ?_ | with_reducible refine bAl ?_ _))):(Code.region id l.toArray true).wpIn Fence.wide n P Q a w:=by
 simp only [aal,decide_eq_true_eq] at hB;obtain ⟨h1,h2,h3⟩:=hB;refine yx (p:=p) hm hT ?_
 have:=qI _ _ _ _ (lM (md := .any) (Q:=Qp (wpListIn Fence.wide n P l.toArray Q (l.drop p))) (ops:=(l.take p).toArray) h1 (fun _ _ _ _ _ h=>h) g s _ a w.drew h3 (KS.out _ hb) (by simpa using h))
 rw [h2] at this;exact this
end
attribute [local go_sem] Oper.semAt_some
theorem Py {T:Act→World→Prop} {a:Act} {w:World} (h:T a w):Qp T .normal a w:=h
def uZ:Lnk:=⟨0,0,[],[]⟩
def lkA (l:List Lnk) (vs:List Value) (k:Nat):Array Value:=((l.getD k uZ).cl (vs.getD k undef)).toArray
def RS (l:List Lnk) (vs:List Value) {n:Nat} (i:Fin n):Array Value:=#[.agg (lkA l vs i.val),dig (fV (l.take i.val))]
section
variable {w w':World} {B:Nat} {A:Option Addr} {l:List Lnk} {vs:List Value}
theorem LksAt.at2 (h:LksAt w B A l vs) {k:Nat} {x:Lnk} (hx:l[k]?=some x):∃ b off Ad cd,A=some ⟨b,off,none⟩∧b<B∧x.ok∧Rd w B 1 Ad x.data.length (ag x.data)∧w.rangeAt b (off+k*35) (x.cl (.slice Ad x.data.length cd))∧lkA l vs k=(x.cl (.slice Ad x.data.length cd)).toArray:=by
 have hk:k<l.length:=(aag.1 hx).1;obtain ⟨b,off,e,hb,hc⟩:=h.1.2 (by omega);obtain ⟨Ad,cd,hv,hr⟩:=h.2.2.1 k x hx;have hxo:=h.2.2.2 x (aam hx);refine ⟨b,off,Ad,cd,e,hb,hxo,hr,fun j u hj=>?_,?_⟩
 ·rw [aay]
  refine hc _ _ ?_;have hj35:j<35:=by have:=(aag.1 hj).1;rwa [Lnk.cl_length hxo] at this
  have hz:(l.zip vs)[k]?=some (x,.slice Ad x.data.length cd):=by rw [List.getElem?_zip_eq_some];exact ⟨hx,hv⟩
  unfold kP;rw [jh (f:=fun p:Lnk×Value=>p.1.cl p.2) (l.zip vs) k j (x,.slice Ad x.data.length cd) (fun p hp=>Lnk.cl_length (h.2.2.2 p.1 (List.of_mem_zip hp).1)) hz hj35];exact hj
 ·unfold lkA
  rw [aS hx,aS hv]
theorem LksAt.take (h:LksAt w B A l vs) (k:Nat) (hk:k≤l.length):LksAt w B A (l.take k) (vs.take k):=by
 obtain ⟨h1,h2,h3,h4⟩:=h;have hz:(l.take k).zip (vs.take k)=(l.zip vs).take k:=by unfold List.zip;rw [List.take_zipWith]
 have hok:∀ p∈l.zip vs,(p.1.cl p.2).length=35:=fun p hp=>Lnk.cl_length (h4 p.1 (List.of_mem_zip hp).1);refine ⟨⟨?_,fun h0=>?_⟩,by rw [aav,aav,h2],fun j x hx=>?_,fun x hx=>h4 x (abv hx)⟩
 ·unfold kP
  rw [hz,flat_length (sz:=35) _ (fun p hp=>hok p (abv hp)),←hz,List.length_zip,aav,aav,h2,Nat.min_self]
 ·obtain ⟨b,off,e,hb,hc⟩:=h1.2 (by rw [aav] at h0;omega)
  refine ⟨b,off,e,hb,fun j u hu=>hc j u ?_⟩;unfold kP at hu ⊢;rw [hz] at hu;rw [←List.take_append_drop k (l.zip vs),aaP,aaO (aag.1 hu).1];exact hu
 ·rw [aa6] at hx
  split at hx
  ·obtain ⟨Ad,cd,e,r⟩:=h3 j x hx
   exact ⟨Ad,cd,by rw [aa6,if_pos (by assumption)];exact e,r⟩
  ·cases hx
theorem LksAt.kept {K:Nat→Prop} (h:LksAt w B A l vs) (hk:KeepsC K w w') (hB:∀ k,k<B→K k):LksAt w' B A l vs :=
 ⟨hk.rd hB h.1,h.2.1,fun k x hx=>by obtain ⟨Ad,cd,e,r⟩:=h.2.2.1 k x hx;exact ⟨Ad,cd,e,hk.rd hB r⟩,h.2.2.2⟩
theorem ShaG.kept {K:Nat→Prop} (h:ShaG w) (hk:KeepsC K w w') (h1:K 2) (h2:K 0):ShaG w' :=
 ⟨fun i x hx=>hk.cell (p:=⟨2,i,none⟩) h1 (h.1 i x hx),fun i x hx=>hk.cell (p:=⟨0,i,none⟩) h2 (h.2.1 i x hx),aaS h.2.2.1 hk.1,aaS h.2.2.2 hk.1⟩
end
theorem UZ (A:Option Addr) (n c:Nat) (w:World) :
  Calls prog 111 #[.slice A n c] w fun r w' =>
   r = .returned (.func (.func 190) #[] #[.pointer (some ⟨w.heap.size,0,none⟩)])∧w'=w.alloc (.cells #[.slice A n c] 22):=by
 have hmf:∀ (fn:Fn) (first cap:Array Value) (w:World),(Instr.makeFunc fn first cap).run prog w = .ok (.func fn first cap) w:=fun _ _ _ _=>rfl;go_enter func111,ntmps111;go_wp2
 go_ret;exact ⟨rfl,rfl⟩
theorem RU (L bp B c:Nat) (A:Option Addr) (l:List Lnk) (vs:List Value) (K:Nat→Prop) (J Jx:List (Fin l.length)→World→Prop) (W:World)
  (hbp:K bp) (hKB:∀ k,k<B→K k) (hK1:K 2) (hK2:K 0) (hJ:AbT (fun _=>False) W.heap.size J)
  (hY:∀ pre x W1,J pre W1→pre.length<l.length→YieldAt Fence.wide (2+1 - 1) prog L (RS l vs x) W1 fun e W' =>
   (e = .returned (.bool true)∧J (pre++[x]) W'∧KeepsC K W1 W')∨(e = .returned (.bool false)∧Jx (pre++[x]) W'))
  (hBW:B≤W.heap.size) (hBb:Blk W bp 22 #[.slice A l.length c]) (hL:LksAt W B A l vs) (hG:ShaG W) (hn:l.length≤1000000) (hcap:l.length≤c) (h0:J [] W) :
  CallsIn Fence.wide (2+1) prog 190 #[.func (.yield L) #[] #[],.pointer (some ⟨bp,0,none⟩)] W fun e W'=>(∃ v,e = .returned v) ∧
   ((∃ ys,ys=upto l.length l.length∧J ys W')∨(∃ pre,(∃ k,k<l.length∧pre=upto l.length (k+1))∧Jx pre W')):=by
 refine callsIn_of_wp func190 rfl trivial ?_ rfl;simp only [ntmps190,aae,aas,List.length_nil,Nat.reduceAdd,Nat.reduceSub,aaV,aaW,aaX,aaY,aaJ,aaN];obtain ⟨n,hnl⟩:∃ n,n=l.length:=⟨_,rfl⟩
 have d0:=hBb.cell 0
 gi_wp2
 gi_loopw [7] (fun i wr=>∃ (k:Nat),k≤l.length∧i = .int .i64 k∧Blk wr bp 22 #[.slice A l.length c]∧LksAt wr B A l vs∧ShaG wr∧W.heap.size≤wr.heap.size∧J (upto l.length k) wr) (fun i _=>l.length - (intOf i).toNat)
 case atStart=>exact ⟨0,aao _,rfl,hBb,hL,hG,aad _,by rw [Pj];exact h0⟩
 case round =>
  clear hBb hL hG h0 d0;obtain ⟨k,hkn,rfl,hBb,hL,hG,hsz,hJ1⟩:=hrel;by_cases hlt:k<l.length
  ·obtain ⟨x,hx⟩:∃ x,l[k]?=some x:=⟨_,aac hlt⟩
   obtain ⟨b,off,Ad,cd,rfl,hbb,hxo,hRd,hrg,hlk⟩:=hL.at2 hx;have hxl:=Lnk.cl_length (v := .slice Ad x.data.length cd) hxo;have l0:=run_loadAt_mid (P:=prog) wr b (off+k*35) 85 (x.cl (.slice Ad x.data.length cd)) _ hrg underlying85 rfl (by rw [hxl];exact gu);have hone:∀ v∈(x.cl (.slice Ad x.data.length cd)).toArray.toList,v.oneCell'=true:=(by simpa using Lnk.one x _ rfl);have hszY:(x.cl (.slice Ad x.data.length cd)).toArray.size=35:=(by simpa using hxl);obtain ⟨Y,hYd⟩:∃ Y,(x.cl (.slice Ad x.data.length cd)).toArray=Y:=⟨_,rfl⟩
   rw [hYd] at l0 hone hszY hlk;have i0:(0:Int)≤(k:Int):=(by omega);have i1:(k:Int)<(l.length:Int):=(by omega);clear hrg hx;refine wpIn_wide.2 ?_;go_upto_region 2 with fail;apply wp_region_lit
   iterate 6 go_step
   refine aP (by rfl) (by rfl) (by rfl) l0 ?_;simp only [Act.put,aaf,aai,aah]
   iterate 6 go_step
   refine aG (by rfl) (by rfl) (by rfl) (by rfl) (bP (X:=Y) (by rw [hszY];exact gu) (by rw [hszY];rfl) hone) ?_;simp only [Act.put];obtain ⟨g3,hg3⟩:∃ g,g=wr.heap.size:=⟨_,rfl⟩
   have BY:=Blk.new wr 85 Y g3 hg3;have hJ2:=hJ.1 _ _ _ none hJ1 (World.grownBy_alloc wr (.cells Y 85) none) (by intro r e;cases e);have hb1:=bAl (aj wr) (.cells Y 85);have hBr:B≤wr.heap.size:=(by omega);replace hBb:=hBb.alloc (.cells Y 85);replace hL:=hL.below (hb1.mono hBr);replace hG:=hG.below hb1;have hg3W:W.heap.size≤g3:=(by omega);replace hsz:=aaj hsz hb1.size;rw [←hg3];clear hg3 l0 hJ1 hb1 hBr;generalize wr.alloc (.cells Y 85)=w1 at *;have i2:(k:Int)≤(l.length:Int):=(by omega);have i3:k≤c:=(by omega);have hlt2:=hL.take k (by omega);have hlk2:(l.take k).length=k:=(by rw [aav];omega);have hBw:B≤w1.heap.size:=by omega
   have q:Hid (∀ w',Below w1.heap.size w1 w'→Calls prog 37 #[.slice (some ⟨b,off,none⟩) k c] w' (Ret (dig (fV (l.take k))) w')):=aab (fun w' h=>by
    have:=Nv (some ⟨b,off,none⟩) c (l.take k) (vs.take k) w' ((hlt2.below (h.mono hBw)).more (aaj hBw h.size)) (by rw [hlk2];omega) (hG.below h)
    rw [hlk2] at this;exact this)
   have KS:Hid (∀ w',Below w1.heap.size w1 w'→((Instr.loadAt 85 (.pointer (some ⟨g3,0,none⟩))).run prog w' = .ok (.agg Y) w'∧w'.cell? ⟨bp,0,none⟩=some (.slice (some ⟨b,off,none⟩) l.length c))) :=
    aab (fun w' h=>⟨bg (BY.below h BY.lt) underlying85 rfl (by rw [hszY];exact gu),(hBb.below h hBb.lt).cell 0⟩)
   have hXe:RS l vs (⟨k,hlt⟩:Fin l.length)=#[.agg Y,dig (fV (l.take k))]:=by
    unfold RS;rw [hlk]
   obtain ⟨D,hD⟩:∃ D,dig (fV (l.take k)) = .agg D:=⟨_,rfl⟩
   rw [hD] at q hXe;go_upto_region 3 with fail;refine (wpIn_wide (n:=3)).1 ?_;refine xe (g:=1) KS 6 [(0,1),(1,2),(2,2),(3,1),(4,1)] ?_;simp only [abq,abj,abx,aa3,bf,aap,aar];refine ae ?_;refine az (v:=?v1) (hv:=?h1) ?_;case h1=>(intro w hSw;refine (af rfl rfl hSw.1).trans ?_;with_reducible rfl)
   refine az ?_;refine ae ?_;refine ae ?_;refine dS (i:=5) ⟨_,rfl,fun K hK=>?_⟩;go_simp;go_at_call 37
   (with_reducible refine (q.out _ (by with_reducible exact bDr (aj _))).mono ?_)
   rintro e w5 ⟨rfl,b5⟩;have B5:Below w1.heap.size w1 w5:=ah (bDr (aj _)) b5;refine aH hK KS ?_;clear hK K;refine jk ?_;refine Py ?_;have hJ3:=hJ.1 _ _ _ none hJ2 (grownBy_below B5 none) (by intro r e;cases e);have hlen:(upto l.length k).length<l.length:=(by rw [upto_length (by omega)];exact hlt);obtain ⟨fn,tmps,assign,body,hy,hR⟩:=hY (upto l.length k) ⟨k,hlt⟩ _ hJ3 hlen;rw [hXe] at hy;rw [upto_succ hlt] at hR;replace hBb:=hBb.below B5 hBb.lt;replace hL:=hL.below (B5.mono hBw);replace hG:=hG.below B5;replace hsz:=aaj hsz B5.size;clear hY hXe hJ3 hJ2 KS q hD hlk hlt2 hlk2 B5 b5 BY hone hszY hYd
   gi_wp2
   refine hR.mono ?_;rintro e W3 (⟨rfl,hJ3,hk3⟩ | ⟨rfl,hJx3⟩)
   ·replace hBb:=hk3.blk hbp hBb
    replace hL:=hL.kept hk3 hKB;replace hG:=hG.kept hk3 hK1 hK2;replace hsz:=aaj hsz hk3.1;clear hy hk3
    gi_wp2
    go_wp2_with fail;exact ⟨⟨k+1,by omega,by go_num,hBb,hL,hG,hsz,hJ3⟩,by simp [intOf];omega⟩
   ·clear hy
    gi_wp2
    go_wp2_with fail;refine bodyPost_ret (results_none rfl _ _ _) rfl ?_;exact ⟨⟨_,rfl⟩,.inr ⟨_,⟨k,hlt,rfl⟩,hJx3⟩⟩
  ·obtain rfl:k=l.length:=by omega
   gi_wp2
   go_end0;exact ⟨⟨_,rfl⟩,.inl ⟨_,rfl,hJ1⟩⟩
theorem Pz (bp B c:Nat) (A:Option Addr) (l:List Lnk) (vs:List Value) (K:Nat→Prop) (w:World) (hbp:K bp) (hKB:∀ k,k<B→K k) (hK1:K 2) (hK2:K 0)
  (hBW:B≤w.heap.size) (hBb:Blk w bp 22 #[.slice A l.length c]) (hL:LksAt w B A l vs) (hG:ShaG w) (hn:l.length≤1000000) (hcap:l.length≤c) :
  GX (fun _=>False) (2+1) prog 190 #[.pointer (some ⟨bp,0,none⟩)] (RS l vs (n:=l.length)) (KeepsC K) (fun ys=>ys=upto l.length l.length) (fun pre=>∃ k,k<l.length∧pre=upto l.length (k+1)) l.length w:=by
 intro L J Jx W hW hJ _ hY h0;exact RU L bp B c A l vs K J Jx W hbp hKB hK1 hK2 hJ hY (aaj hBW hW.size) (hBb.below hW hBb.lt) (hL.below (hW.mono hBW)) (hG.below hW) hn hcap h0
end
section
open Go Go.RowKit
theorem RV:(prog.info? 5).map (fun i=>(i.zero,i.size,i.bytes))=some (some (.int .u8 0),1,1):=by kernel_rfl
theorem Kz (p:Addr) (n c:Nat) (w:World):(binOp .eql 83 (.slice (some p) n c) (.slice none 0 0)).run prog w = .ok (.bool false) w:=by kernel_rfl
theorem KA (w:World):(binOp .eql 83 (.slice none 0 0) (.slice none 0 0)).run prog w = .ok (.bool true) w:=by kernel_rfl
theorem RX (A:Option Addr) (n c:Nat) (d:List Nat) (W:World) (hA:Rd W W.heap.size 1 A n (ag d)) (hnil:A=none→n=0∧c=0) (hn:n≤1000000) :
  Calls prog 146 #[.slice A n c] W (RJ 5 1 n (ag d) W):=by
 have hl:d.length=n:=by have:=hA.1;rw [ai,aaA] at this;exact this
 have h0:=KA;go_enter func146,ntmps146;cases A with
 | none =>
  obtain ⟨rfl,rfl⟩:=hnil rfl;obtain rfl:d=[]:=abo.1 hl;go_wp2_with fail;go_ret;exact ⟨_,rfl,aj W,World.ownsRow_nil _ _ _ _⟩
 | some p =>
  have h1:=Kz p n c;have hown:=World.ownsRow_lit (base:=W.heap.size) (e:=5) (size:=1) W #[] 0 (aad _) (by unfold maxLen;omega) rfl;have hA2:=hA.alloc (aad _) (.cells #[] 5);have hs:W.heap.size≤(W.alloc (.cells #[] 5)).heap.size:=by simp
  have h63:0+n≤maxLen:=by unfold maxLen;omega
  have hby:(0+n)*1≤140737488355328:=by omega
  go_upto_region 3 with fail;go_wp2_with (at_builtin;refine bT (.tmp 5) (.tmp 6) 83 W.heap.size 5 (.int .u8 0) 1 1 _ 0 _ (some p) n c _ (ag d) (by rfl) (by rfl) underlying83 RV rfl (by omega) (by rfl) hown (by rfl) hA2 (by intro h;cases h) aZ h63 hby hs ?_;intro v' w' hown4 hg4)
  go_ret;rw [aax] at hown4;exact ⟨_,rfl,(bAl (aj W) (.cells #[] 5)).trans (hg4.below hown hs),hown4⟩
theorem KC (p:Addr) (n c:Nat) (w:World):(binOp .eql 23 (.slice (some p) n c) (.slice none 0 0)).run prog w = .ok (.bool false) w:=by kernel_rfl
theorem Iu (w:World):(binOp .eql 23 (.slice none 0 0) (.slice none 0 0)).run prog w = .ok (.bool true) w:=by kernel_rfl
theorem RY (A:Option Addr) (n c:Nat) (l:List (List Nat)) (W:World) (hA:Rd W W.heap.size 32 A n (l.flatMap ag)) (hnil:A=none→n=0∧c=0) (hn:n≤1000000) :
  Calls prog 56 #[.slice A n c] W (RJ 29 32 n (l.flatMap ag) W):=by
 have h0:=Iu;go_enter func56,ntmps56;cases A with
 | none =>
  obtain ⟨rfl,rfl⟩:=hnil rfl;have he:l.flatMap ag=[]:=abr (by rw [hA.1]);go_wp2_with fail;go_ret;exact ⟨_,rfl,aj W,World.ownsRow_nil _ _ _ _⟩
 | some p =>
  have h1:=KC p n c;have hown:=World.ownsRow_lit (base:=W.heap.size) (e:=29) (size:=32) W #[] 0 (aad _) (by unfold maxLen;omega) rfl;have hA2:=hA.alloc (aad _) (.cells #[] 29);have hs:W.heap.size≤(W.alloc (.cells #[] 29)).heap.size:=by simp
  have h63:0+n≤maxLen:=by unfold maxLen;omega
  have hby:(0+n)*32≤140737488355328:=by omega
  have hone:∀ u∈l.flatMap ag,u.oneCell'=true:=fun u hu=>by
   obtain ⟨x,_,hx⟩:=List.mem_flatMap.1 hu;exact aZ u hx
  go_upto_region 3 with fail;go_wp2_with (at_builtin;refine bT (.tmp 5) (.tmp 6) 23 W.heap.size 29 sF 32 32 _ 0 _ (some p) n c _ (l.flatMap ag) (by rfl) (by rfl) underlying23 dN rfl (by omega) (by rfl) hown (by rfl) hA2 (by intro h;cases h) hone h63 hby hs ?_;intro v' w' hown4 hg4)
  go_ret;rw [aax] at hown4;exact ⟨_,rfl,(bAl (aj W) (.cells #[] 29)).trans (hg4.below hown hs),hown4⟩
theorem RZ (x:Lnk) (Ad:Option Addr) (n c ob:Nat) (no:Int) (W:World) (hO:W.cell? ⟨ob,0,none⟩=some (.int .i64 no)) (hob:ob<W.heap.size) :
  Calls prog 76 #[.agg (x.cl (.slice Ad n c)).toArray,.pointer (some ⟨ob,0,none⟩)] W (Ret (.bool (x.node != no)) W):=by
 have hY0:(x.cl (.slice Ad n c)).toArray[0]?=some (.int .i64 x.node):=rfl;obtain ⟨Y,hY⟩:∃ Y,(x.cl (.slice Ad n c)).toArray=Y:=⟨_,rfl⟩
 rw [hY] at hY0 ⊢;have BY:=Blk.new W 85 Y _ rfl;have hb:=bAl (aj W) (.cells Y 85);have c0:=(BY.cell 0).trans hY0;have c1:=(hb.cell (p:=⟨ob,0,none⟩) hob).trans hO;go_enter func76,ntmps76;go_upto_region 1 with fail;generalize W.alloc (.cells Y 85)=w1 at *;go_wp2_with fail;go_ret;exact ⟨rfl,hb⟩
theorem KD (A:Option Addr) (c:Nat) (l:List Lnk) (vs:List Value) (ob:Nat) (no:Int) (W:World) (hA:LksAt W W.heap.size A l vs) (hn:l.length≤1000000) (hO:W.cell? ⟨ob,0,none⟩=some (.int .i64 no)) (hob:ob<W.heap.size) :
  Calls prog 159 #[.slice A l.length c,.func (.func 76) #[] #[.pointer (some ⟨ob,0,none⟩)]] W (Ret (.int .i64 (kH (fun x=>x.node != no) l)) W):=by
 go_enter func159,ntmps159;go_wp2_with fail;go_loopw [8] (fun i wr=>∃ k:Nat,k≤l.length∧i = .int .i64 k∧Below W.heap.size W wr∧Hid (∀ y∈l.take k,(y.node != no)=false)) (fun i _=>l.length - (intOf i).toNat)
 case atStart=>exact ⟨0,aao _,rfl,aj _,aab (by simp)⟩
 case round =>
  obtain ⟨k,hkn,rfl,hb,hp⟩:=hrel;by_cases hlt:k<l.length
  ·obtain ⟨x,hx⟩:∃ x,Hid (l[k]?=some x):=⟨_,aab (aac hlt)⟩
   obtain ⟨b,off,Ad,cd,rfl,hbb,hxo,hRd,hrg⟩:=(hA.below hb).at_ hx.out;have hxl:=Lnk.cl_length (v := .slice Ad x.data.length cd) hxo;have l0:=run_loadAt_mid (P:=prog) wr b (off+k*35) 85 (x.cl (.slice Ad x.data.length cd)) _ hrg underlying85 rfl (by rw [hxl];exact gu);have q:=RZ x Ad x.data.length cd ob no wr ((hb.cell (p:=⟨ob,0,none⟩) hob).trans hO) (by have:=hb.size;omega);generalize (x.cl (.slice Ad x.data.length cd)).toArray=Y at *;have i0:(0:Int)≤(k:Int):=(by omega);have i1:(k:Int)<(l.length:Int):=(by omega);clear hrg hxl hRd;go_upto_region 4 with fail;apply wp_region_lit
   iterate 12 go_step
   refine aP (by rfl) (by rfl) (by rfl) l0 ?_;simp only [Act.put,aaf,aai,aah];cases hg:(x.node != no)
   ·have hp':=aab (wQ (p:=fun x:Lnk=>x.node != no) hp.out hx.out hg)
    rw [hg] at q;clear hg l0;go_wp2_with fail;refine q.mono ?_;rintro e w1 ⟨rfl,b1⟩;clear q;go_wp2_with fail;exact ⟨⟨k+1,by omega,by go_num,ah hb b1,hp'⟩,by simp [intOf];omega⟩
   ·have hres:=aab (yu (p:=fun x:Lnk=>x.node != no) hp.out hx.out hg)
    rw [hg] at q;clear hg l0;go_wp2_with fail;refine q.mono ?_;rintro e w1 ⟨rfl,b1⟩;clear q;go_wp2_with fail;go_ret;exact ⟨eX hres.out.symm,ah hb b1⟩
  ·have hres:Hid (kH (fun x:Lnk=>x.node != no) l = -1):=aab (oH (by have:=hp.out;rwa [aaH (by omega)] at this))
   go_wp2_with fail;go_ret;exact ⟨eX hres.out.symm,hb⟩
theorem Dv (A:Option Addr) (c:Nat) (l:List Lnk) (vs:List Value) (ob:Nat) (no:Int) (W:World) (hA:LksAt W W.heap.size A l vs) (hn:l.length≤1000000) (hO:W.cell? ⟨ob,0,none⟩=some (.int .i64 no)) (hob:ob<W.heap.size) :
  Calls prog 75 #[.slice A l.length c,.func (.func 76) #[] #[.pointer (some ⟨ob,0,none⟩)]] W (Ret (.bool (l.any (fun x=>x.node != no))) W):=by
 have q:=KD A c l vs ob no W hA hn hO hob;have hg:=uY (p:=fun x:Lnk=>x.node != no) (l:=l);generalize kH (fun x:Lnk=>x.node != no) l=i at *;cases hall:(l.any (fun x=>x.node != no))
 all_goals
  rw [hall] at hg;have hg':=aab hg;have h1:=hg;simp at h1;clear hg hall;go_enter func75,ntmps75;go_wp2_with fail;refine q.mono ?_;rintro e w1 ⟨rfl,b1⟩;clear q;go_wp2_with fail;go_ret;exact ⟨by first | rfl | exact aI hg'.out,b1⟩
end
end Go.Proofs.YthbibbkbaphpkaaGreatDoor

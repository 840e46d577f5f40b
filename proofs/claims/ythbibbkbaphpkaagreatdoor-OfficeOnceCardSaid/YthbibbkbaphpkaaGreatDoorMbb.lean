/- frankingref49.SameJob of nothing and nothing; what Work gives, in one form; small facts of keys. -/
import Derived.Test.YthbibbkbaphpkaaGreatDoorMaz
import Derived.Test.YthbibbkbaphpkaaGreatDoorMba
import Derived.Test.YthbibbkbaphpkaaGreatDoorMaw
import Derived.Handed
set_option maxHeartbeats 16000000
set_option maxRecDepth 1000000
namespace Go.Proofs.YthbibbkbaphpkaaGreatDoor
open _root_.Go.Proofs.Tryz
section
open Go Go.RowKit
theorem Gi {s:Int} (h:iO s=true):pK s=aJ 4 s∧x8 s=0:=by
 unfold pK x8;rw [if_pos h,if_pos h];refine ⟨rfl,?_⟩;unfold zC;rw [if_pos aV]
def WP (n:Nat):Int:=1+(n:Int) % 1073741788
section
variable {o:Ofc} {rest:Int} {h:Hd} {inn:List Ltr} {t:Trn} {w:World}
theorem Jm {w:World} {B:Nat} {X:Array Value} {o:Ofc} (h:OfAt w B X o):X.size=4∧∀ v∈X.toList,v.oneCell'=true:=by
 obtain ⟨A,c,vs,Au,cu,rfl,_⟩:=h;refine ⟨rfl,fun v hv=>?_⟩;simp only [aaq,aaw,or_false] at hv;rcases hv with rfl | rfl | rfl | rfl <;> rfl
theorem Jn {w:World} {B:Nat} {J:Array Value} {j:Jw} (h:JwAt w B J j):J.size=49∧∀ v∈J.toList,v.oneCell'=true:=by
 obtain ⟨A1,A2,c1,c2,s,rfl,_,_,_,ho⟩:=h;constructor
 ·have:=Hd.cl_length ho
  unfold sQ oV;rw [aae];simp only [aas];omega
 ·intro v hv
  unfold sQ at hv;exact xx ⟨rfl,rfl,rfl,rfl,rfl,rfl,rfl⟩ (Hd.one j.hand) v (by simpa using hv)
theorem RetWork.split {w':World} {r:Ending} (hr:RetWork o rest h inn t w r w'):Below w.heap.size w w'∧∃ X J,r = .returned (.tuple #[.agg X,.agg J,.int .i64 (dh o rest h inn t)])∧X.size=4∧(∀ v∈X.toList,v.oneCell'=true)∧J.size=49∧(∀ v∈J.toList,v.oneCell'=true) ∧
  (dh o rest h inn t≠0→X=bK∧J=bC.toArray) ∧
  (dh o rest h inn t=0→∀ w2,KeepsW w' w2→Below w.heap.size w w2→OfAt w2 w2.heap.size X (oK o rest h inn t)∧JwAt w2 w2.heap.size J (lh o rest h inn t)):=by
 obtain ⟨hb,hno,hyes⟩:=hr;refine ⟨hb,?_⟩;by_cases h0:dh o rest h inn t=0
 ·obtain ⟨X,J,rfl,hat⟩:=hyes h0
  obtain ⟨a,b⟩:=hat w' (KeepsW.refl w') (.inr hb);exact ⟨X,J,by rw [h0],(Jm a).1,(Jm a).2,(Jn b).1,(Jn b).2,fun h=>absurd h0 h,fun _ w2 k b=>hat w2 k (.inr b)⟩
 ·refine ⟨bK,bC.toArray,hno h0,rfl,?_,dW,by simpa using qL,fun _=>⟨rfl,rfl⟩,fun h=>absurd h h0⟩
  intro v hv;unfold bK at hv;simp only [aaq,aaw,or_false] at hv;rcases hv with rfl | rfl | rfl | rfl <;> rfl
end
theorem Jo {P:Program} {ops:Array Oper} {rest:List Oper} {o:Oper} {a:Act} {w:World} {Q:Exit→Act→World→Prop} (hgd:Region.wanted o (yielded ops a.tmps)=true) {op:BinOp} {t t2:TypeId} {x y:Operand} (ho:o.op = .binOp op t x y t2) {u v r:Value} (hx:a.eval x=u) (hy:a.eval y=v)
  (hl:(do eqGuard op t x y u v;binOp op t u v:Sem Value).run P w = .ok r w) (h:wpList P ops Q rest (a.put o.dst r) w):wpList P ops Q (o::rest) a w :=
 wpList_step fun K hK=>by
  rw [if_pos hgd]
  have e:(execOp a.eval o).run P w = .ok (.value r) w:=by
   unfold execOp
   rw [ho]
   simp only [hx,hy]
   rw [Sem.run_bind,hl]
   rfl
  unfold Oper.wp
  rw [e]
  exact hK _ _ h
end
section
open Go.ChangeShapes Go.WideShapes Go.ChangeAt Go.RowKit Go.Deep
section
variable {H:Type} {enc:TypeId×Value→H} {P:Program} {w:World} {base:Nat} {spare:Nat→Bool} {held:Bool}
def Light (P:Program) (t:TypeId) (d:DataW H):Prop:=(d.weights P t).all (·≤reachBytes)=true
theorem yH {e:TypeId} : ∀ {l:List (DataW H)},(DataW.weightsAll P e l).all (·≤reachBytes)=true→∀ d∈l,Light P e d
 | [],_,d,h=>by cases h
 | a::l,h,d,hd=>by
  rw [DataW.weightsAll,List.all_append,aal] at h;rcases aaq.1 hd with rfl | hd
  ·exact h.1
  ·exact yH h.2 d hd
theorem kJ:∀ {ts:List TypeId} {l:List (DataW H)},(DataW.weightsEach P ts l).all (·≤reachBytes)=true→∀ (i:Nat) t d,ts[i]?=some t→l[i]?=some d→Light P t d
 | [],_,_,i,t,d,ht,_=>by simp at ht
 | _::_,[],_,i,t,d,_,hd=>by simp at hd
 | t0::ts,d0::l,h,i,t,d,ht,hd=>by
  rw [DataW.weightsEach,List.all_append,aal] at h;cases i with
  | zero =>
   simp only [aap,Option.some.injEq] at ht hd;subst ht;subst hd;exact h.1
  | succ i =>
   simp only [aar] at ht hd;exact kJ h.2 i t d ht hd
theorem jo {t:TypeId} {fs:Array Field} {fuel:Nat} {cs:List Value} {x:DataW H×List MemPlace} (ht:P.underlying t=some (.struct fs)) (h:DataW.trod enc P w base spare held fuel t cs=some x) (hw:Light P t x.1) :
  cs.length=P.cellsOf t∧∃ n,∀ (i:Nat) (f:Field),fs[i]?=some f→∃ y,DataW.trod enc P w base spare held n f.type ((cs.drop f.offset).take (P.cellsOf f.type))=some y∧Light P f.type y.1:=by
 obtain ⟨xs,n,_,rfl,hl,hxl,hf⟩:=DataW.trod_struct ht h;refine ⟨hl,n,fun i f hi=>?_⟩;have hlt:i<fs.size:=(aaI.1 hi).1;have hx:xs[i]?=some xs[i]:=aac (by omega);refine ⟨xs[i],(hf i f hi).trans hx,?_⟩;unfold Light DataW.weights at hw;rw [ht] at hw;refine kJ hw i f.type xs[i].1 ?_ ?_
 ·rw [aaD,←Array.getElem?_toList] at *
  rw [hi];rfl
 ·rw [aaD,hx];rfl
theorem mZ {t e:TypeId} {k fuel:Nat} {cs:List Value} {x:DataW H×List MemPlace} (ht:P.underlying t=some (.array k e)) (h:DataW.trod enc P w base spare held fuel t cs=some x) (hw:Light P t x.1) :
  cs.length=P.cellsOf t∧∃ n,∀ i,i<k→∃ y,DataW.trod enc P w base spare held n e ((cs.drop (i*P.cellsOf e)).take (P.cellsOf e))=some y∧Light P e y.1:=by
 obtain ⟨xs,n,_,rfl,hl,hxl,hf⟩:=DataW.trod_array ht h;refine ⟨hl,n,fun i hi=>?_⟩;have hx:xs[i]?=some xs[i]:=aac (by omega);refine ⟨xs[i],(hf i hi).trans hx,?_⟩;unfold Light DataW.weights at hw;rw [ht] at hw;exact yH hw _ (aaK.2 ⟨xs[i],List.getElem_mem _,rfl⟩)
theorem je {α:Type} {f:α→List Value} {Pr:α→Prop} {t e:TypeId} {sz fuel:Nat} {cs:List Value} {x:DataW H×List MemPlace} (ht:P.underlying t=some (.slice e)) (hsz:P.cellsOf e=sz) (hs:0<sz)
  (hel:∀ (n:Nat) (cs:List Value) (y:DataW H×List MemPlace),DataW.trod enc P w base spare held n e cs=some y→Light P e y.1→∃ a,cs=f a∧(f a).length=sz∧Pr a)
  (h:DataW.trod enc P w base spare held fuel t cs=some x) (hw:Light P t x.1) :
  ∃ (A:Option Addr) (c:Nat) (l:List α),cs=[.slice A l.length c]∧l.length≤c∧c≤maxLen∧l.length*P.bytesOf e≤reachBytes∧Rd w w.heap.size sz A l.length (l.flatMap f)∧(∀ y∈l,(f y).length=sz∧Pr y):=by
 rcases open_slice ht h with ⟨rfl,_⟩ | ⟨a,len,cap,m,n,D,Pl,rfl,hb,hl,hm,hmm,rfl,hx⟩
 ·exact ⟨none,0,[],rfl,aao _,aao _,by simp,Rd.nil_,fun y hy=>by cases hy⟩
 ·rw [hsz] at hx
  have hlm:len≤m:=by rw [hmm];split <;> omega
  unfold Light DataW.weights at hw;rw [ht] at hw;simp only [List.all_cons,List.all_append,aal,decide_eq_true_eq,aaQ,List.length_range] at hw;obtain ⟨hby,hw1,_⟩:=hw;have hby':len*P.bytesOf e≤reachBytes:=aaj (Nat.mul_le_mul_right _ (by omega)) hby
  have hli:∀ i,i<len→Light P e (D i):=fun i hi=>yH hw1 _ (aaK.2 ⟨i,aaE.2 hi,rfl⟩);rcases aa7 len with h0 | hpos
  ·subst h0
   exact ⟨some a,cap,[],rfl,aao _,hm,by simp,⟨by simp,fun h=>absurd h (by simp)⟩,fun y hy=>by cases hy⟩
  ·obtain ⟨cs0,_,ht0⟩:=hx 0 (by omega)
   obtain ⟨a0,_,_⟩:=hel _ _ _ ht0 (hli 0 hpos)
   haveI:Inhabited α:=⟨a0⟩
   obtain ⟨V,hV⟩:=choose_lt (α:=α) (n:=len) (p:=fun i y=>w.cells? base (a.add (i*sz)) sz=some (f y)∧(f y).length=sz∧Pr y) (fun i hi=>by
    obtain ⟨cs',h1,h2⟩:=hx i (by omega);obtain ⟨y,rfl,hy⟩:=hel _ _ _ h2 (hli i hi);exact ⟨y,h1,hy⟩)
   have hmem:∀ y∈(List.range len).map V,(f y).length=sz∧Pr y:=fun y hy=>by
    obtain ⟨i,hi,rfl⟩:=aaK.1 hy;exact (hV i (aaE.1 hi)).2
   have hlen:((List.range len).map V).length=len:=(by simp);have hfl:(((List.range len).map V).flatMap f).length=len*sz:=(by rw [flat_length _ (fun y hy=>(hmem y hy).1),hlen]);refine ⟨some a,cap,(List.range len).map V,by rw [hlen],by rw [hlen];exact hl,hm,by rw [hlen];exact hby',?_,hmem⟩;rw [hlen];refine ⟨hfl,fun _=>?_⟩
   have hc0:∀ i j u,i<len→(f (V i))[j]?=some u→w.cell? (a.add (i*sz+j))=some u:=by
    intro i j u hi hu;obtain ⟨_,hlen,hat⟩:=World.cells?_some (hV i hi).1
    have hj:j<sz:=by
     have:=(aag.1 hu).1
     rw [(hV i hi).2.1] at this;exact this
    have:=hat j hj
    rw [Jy] at this;rw [this];exact hu
   obtain ⟨u0,hu0⟩:∃ u,(f (V 0))[0]?=some u:=⟨_,aac (by rw [(hV 0 hpos).2.1];exact hs)⟩
   have hcell:=hc0 0 0 u0 hpos hu0;obtain ⟨b,off,spot⟩:=a;have hspot:spot=none:=(by simpa [Addr.add] using World.cell?_spot hcell);subst hspot;refine ⟨b,off,rfl,?_,?_⟩
   ·have:(⟨b,off,none⟩:Addr).add (0*sz+0)=⟨b,off,none⟩:=by simp [Addr.add]
    rw [this] at hcell;unfold World.cell? at hcell;cases hh:w.heap[b]? with
    | none=>simp [hh] at hcell
    | some o=>exact (aaI.1 hh).1
   ·intro j u hu
    have hjl:j<len*sz:=by
     have:=(aag.1 hu).1
     rwa [hfl] at this
    have hi:j / sz<len:=(by rw [Nat.div_lt_iff_lt_mul hs];exact hjl);have hdm:j=j / sz*sz+j % sz:=(by rw [abg];exact (Nat.div_add_mod j sz).symm);have hmod:=aaC j hs;rw [hdm,jh _ (j / sz) (j % sz) (V (j / sz)) (fun y hy=>(hmem y hy).1) (by simp [hi]) hmod] at hu
    have:=hc0 (j / sz) (j % sz) u hi hu
    rw [←hdm] at this
    have ha:(⟨b,off,none⟩:Addr).add j=⟨b,off+j,none⟩:=by
     unfold Addr.add
     split
     ·rename_i h;subst h;rfl
     ·rfl
    rwa [ha] at this
end
theorem aY (cs:List Value) (o m:Nat):cs.drop o=(cs.drop o).take m++cs.drop (o+m):=by
 rw [←List.drop_drop,List.take_append_drop]
theorem N9 {cs l:List Value} {o m j:Nat} {v:Value} (h:(cs.drop o).take m=l) (hv:l[j]?=some v):cs[o+j]?=some v:=by
 rw [←h,aa6] at hv
 split at hv
 ·rwa [List.getElem?_drop] at hv
 ·cases hv
theorem wf_i64 {z:Int} (h:(Lit.int .i64 z).wf=true):-9223372036854775808≤z∧z≤9223372036854775807:=by
 unfold Lit.wf at h;simp only [aal,decide_eq_true_eq] at h;exact h
theorem wf_u8 {z:Int} (h:(Lit.int .u8 z).wf=true):0≤z∧z≤255:=by
 unfold Lit.wf at h;simp only [aal,decide_eq_true_eq] at h;exact h
theorem zy:prog.cellsOf 3=1:=by kernel_rfl
theorem Xq:prog.cellsOf 5=1:=by kernel_rfl
theorem Jq:prog.cellsOf 61=2:=by kernel_rfl
theorem Jr:prog.cellsOf 63=6:=by kernel_rfl
theorem tu:prog.cellsOf 29=32:=by kernel_rfl
theorem WR:prog.cellsOf 33=42:=by kernel_rfl
theorem VT:prog.cellsOf 27=3:=by kernel_rfl
theorem VU:prog.cellsOf 31=2:=by kernel_rfl
theorem Oa:prog.cellsOf 94=3:=by kernel_rfl
section
variable {H:Type} {enc:TypeId×Value→H} {w:World} {base:Nat} {spare:Nat→Bool} {held:Bool}
theorem jw {n:Nat} {cs:List Value} {y:DataW H×List MemPlace} (h:DataW.trod enc prog w base spare held n 3 cs=some y):∃ z,cs=[.int .i64 z]∧inI z:=by
 obtain ⟨z,h1,_,h2⟩:=DataW.trod_int underlying3 h;exact ⟨z,h1,wf_i64 h2⟩
theorem Ob {t:TypeId} {f0 f1:Field} (ht:prog.underlying t=some (.struct #[f0,f1])) (h0:f0.type=3∧f0.offset=0) (h1:f1.type=3∧f1.offset=1) (hc:prog.cellsOf t=2) {n:Nat} {cs:List Value} {y:DataW H×List MemPlace}
  (h:DataW.trod enc prog w base spare held n t cs=some y) (hw:Light prog t y.1):∃ a b,cs=[.int .i64 a,.int .i64 b]∧inI a∧inI b:=by
 obtain ⟨hl,m,hf⟩:=jo ht h hw;obtain ⟨y0,q0,-⟩:=hf 0 f0 rfl;obtain ⟨y1,q1,-⟩:=hf 1 f1 rfl;rw [h0.1,h0.2,zy] at q0;rw [h1.1,h1.2,zy] at q1;obtain ⟨a,e0,i0⟩:=jw q0;obtain ⟨b,e1,i1⟩:=jw q1;rw [hc] at hl;refine ⟨a,b,?_,i0,i1⟩;rw [←aa3 (l:=cs),aY cs 0 1,e0,aY cs (0+1) 1,e1,abl (by omega)];rfl
def Ltr.io (x:Ltr):Prop:=(inI x.a0∧inI x.b0)∧(inI x.a1∧inI x.b1)∧(inI x.a2∧inI x.b2)
theorem Uh {t e:TypeId} (ht:prog.underlying t=some (.array 3 e)) (hc:prog.cellsOf t=6) (he:prog.cellsOf e=2)
  (hp:∀ {n:Nat} {cs:List Value} {y:DataW H×List MemPlace},DataW.trod enc prog w base spare held n e cs=some y→Light prog e y.1→∃ a b,cs=[.int .i64 a,.int .i64 b]∧inI a∧inI b) {n:Nat} {cs:List Value} {y:DataW H×List MemPlace}
  (h:DataW.trod enc prog w base spare held n t cs=some y) (hw:Light prog t y.1):∃ l:Ltr,cs=l.cl∧l.io:=by
 obtain ⟨hl,m,hf⟩:=mZ ht h hw;obtain ⟨y0,q0,l0⟩:=hf 0 (by omega);obtain ⟨y1,q1,l1⟩:=hf 1 (by omega);obtain ⟨y2,q2,l2⟩:=hf 2 (by omega);rw [he] at q0 q1 q2;obtain ⟨a0,b0,e0,i0⟩:=hp q0 l0;obtain ⟨a1,b1,e1,i1⟩:=hp q1 l1;obtain ⟨a2,b2,e2,i2⟩:=hp q2 l2;rw [hc] at hl;refine ⟨⟨a0,b0,a1,b1,a2,b2⟩,?_,i0,i1,i2⟩;rw [show 0*2=0 from rfl] at e0;rw [show 1*2=2 from rfl] at e1;rw [show 2*2=4 from rfl] at e2;rw [←aa3 (l:=cs),aY cs 0 2,e0,aY cs (0+2) 2,e1,aY cs (0+2+2) 2,e2,abl (by omega)];rfl
theorem Qc (n:Nat) (cs:List Value) (y:DataW H×List MemPlace) (h:DataW.trod enc prog w base spare held n 63 cs=some y) (hw:Light prog 63 y.1):∃ l:Ltr,cs=l.cl∧l.cl.length=6∧l.io:=by
 obtain ⟨l,e,io⟩:=Uh underlying63 Jr Jq (fun h hw=>Ob underlying61 ⟨rfl,rfl⟩ ⟨rfl,rfl⟩ Jq h hw) h hw;exact ⟨l,e,rfl,io⟩
theorem qj (n:Nat) (cs:List Value) (y:DataW H×List MemPlace) (h:DataW.trod enc prog w base spare held n 29 cs=some y) (hw:Light prog 29 y.1):∃ d:List Nat,cs=ag d∧(ag d).length=32∧(d.length=32∧okB d):=by
 obtain ⟨hl,m,hf⟩:=mZ underlying29 h hw;rw [tu] at hl
 obtain ⟨V,hV⟩:=choose_lt (α:=Nat) (n:=32) (p:=fun i z=>cs[i]?=some (.int .u8 (z:Nat))∧z<256) (fun i hi=>by
  obtain ⟨y,q,-⟩:=hf i hi;rw [Xq,aaA] at q;obtain ⟨z,e,_,hz⟩:=DataW.trod_int underlying5 q;have hz':=wf_u8 hz;refine ⟨z.toNat,?_,by omega⟩
  have:=N9 (j:=0) e rfl
  rw [aa9] at this;rw [this,show ((z.toNat:Nat):Int)=z by omega])
 have he:cs=ag ((List.range 32).map V):=by
  apply List.ext_getElem?;intro i;rcases aa0 i 32 with hi | hi
  ·rw [(hV i hi).1];simp [ag,hi]
  ·rw [abA (by omega),abA (by simpa [ag] using hi)]
 refine ⟨(List.range 32).map V,he,by simp [ag],by simp,fun x hx=>?_⟩;obtain ⟨i,hi,rfl⟩:=aaK.1 hx;exact (hV i (aaE.1 hi)).2
theorem VC {t:TypeId} (ht:prog.underlying t=some (.array 3 3)) (hc:prog.cellsOf t=3) {n:Nat} {cs:List Value} {y:DataW H×List MemPlace} (h:DataW.trod enc prog w base spare held n t cs=some y) (hw:Light prog t y.1) :
  ∃ a b c,cs=[.int .i64 a,.int .i64 b,.int .i64 c]∧inI a∧inI b∧inI c:=by
 obtain ⟨hl,m,hf⟩:=mZ ht h hw;obtain ⟨y0,q0,l0⟩:=hf 0 (by omega);obtain ⟨y1,q1,l1⟩:=hf 1 (by omega);obtain ⟨y2,q2,l2⟩:=hf 2 (by omega);rw [zy] at q0 q1 q2;obtain ⟨a,e0,k0⟩:=jw q0;obtain ⟨b,e1,k1⟩:=jw q1;obtain ⟨c,e2,k2⟩:=jw q2;rw [hc] at hl;refine ⟨a,b,c,?_,k0,k1,k2⟩;rw [show 0*1=0 from rfl] at e0;rw [show 1*1=1 from rfl] at e1;rw [show 2*1=2 from rfl] at e2;rw [←aa3 (l:=cs),aY cs 0 1,e0,aY cs (0+1) 1,e1,aY cs (0+1+1) 1,e2,abl (by omega)];rfl
theorem WS {n:Nat} {cs:List Value} {y:DataW H×List MemPlace} (h:DataW.trod enc prog w base spare held n 27 cs=some y) (hw:Light prog 27 y.1):∃ a b c,cs=[.int .i64 a,.int .i64 b,.int .i64 c]∧inI a∧inI b∧inI c:=by
 obtain ⟨hl,m,hf⟩:=jo underlying27 h hw;rw [VT] at hl;obtain ⟨y0,q0,-⟩:=hf 0 _ rfl;obtain ⟨y1,q1,-⟩:=hf 1 _ rfl;obtain ⟨y2,q2,-⟩:=hf 2 _ rfl;simp only [aa2,aa5,aa4] at q0 q1 q2;rw [zy] at q0 q1 q2;obtain ⟨a,e0,k0⟩:=jw q0;obtain ⟨b,e1,k1⟩:=jw q1;obtain ⟨c,e2,k2⟩:=jw q2;refine ⟨a,b,c,?_,k0,k1,k2⟩;rw [←aa3 (l:=cs),aY cs 0 1,e0,aY cs (0+1) 1,e1,aY cs (0+1+1) 1,e2,abl (by omega)];rfl
end
section
variable {H:Type} {enc:TypeId×Value→H} {w:World} {base:Nat} {spare:Nat→Bool} {held:Bool}
theorem Xr {n:Nat} {cs:List Value} {y:DataW H×List MemPlace} (h:DataW.trod enc prog w base spare held n 33 cs=some y) (hw:Light prog 33 y.1):∃ h:Hd,cs=h.cl∧h.ok:=by
 obtain ⟨hl,m,hf⟩:=jo underlying33 h hw;rw [WR] at hl;obtain ⟨y0,q0,l0⟩:=hf 0 _ rfl;obtain ⟨y1,q1,l1⟩:=hf 1 _ rfl;obtain ⟨y2,q2,l2⟩:=hf 2 _ rfl;obtain ⟨y3,q3,l3⟩:=hf 3 _ rfl;obtain ⟨y4,q4,l4⟩:=hf 4 _ rfl;obtain ⟨y5,q5,l5⟩:=hf 5 _ rfl;obtain ⟨y6,q6,l6⟩:=hf 6 _ rfl;obtain ⟨y7,q7,l7⟩:=hf 7 _ rfl;simp only [aa2,aa5,aa4] at q0 q1 q2 q3 q4 q5 q6 q7 l0 l5 l7;rw [VT] at q0;rw [zy] at q1 q2 q3 q4 q6;rw [tu] at q5;rw [VU] at q7;obtain ⟨a0,b0,g0,e0,i0,i1,i2⟩:=WS q0 l0;obtain ⟨a1,e1,k1⟩:=jw q1;obtain ⟨a2,e2,k2⟩:=jw q2;obtain ⟨a3,e3,k3⟩:=jw q3;obtain ⟨a4,e4,k4⟩:=jw q4;obtain ⟨d,e5,-,k5⟩:=qj _ _ _ q5 l5;obtain ⟨a6,e6,k6⟩:=jw q6;obtain ⟨a7,b7,e7,k7,k8⟩:=Ob underlying31 ⟨rfl,rfl⟩ ⟨rfl,rfl⟩ VU q7 l7;refine ⟨⟨a0,b0,g0,a1,a2,a3,a4,d,a6,a7,b7⟩,?_,i0,i1,i2,k1,k2,k3,k4,k5,k6,k7,k8⟩
 rw [←aa3 (l:=cs),aY cs 0 3,e0,aY cs (0+3) 1,e1,aY cs (0+3+1) 1,e2,aY cs (0+3+1+1) 1,e3,aY cs (0+3+1+1+1) 1,e4,aY cs (0+3+1+1+1+1) 32,e5,
  aY cs (0+3+1+1+1+1+32) 1,e6,aY cs (0+3+1+1+1+1+32+1) 2,e7,abl (by omega),abe]
 rfl
instance:Inhabited Hd:=⟨dM⟩
end
theorem Ui:prog.cellsOf 85=35:=by kernel_rfl
theorem Uj:prog.cellsOf 25=4:=by kernel_rfl
theorem WT:prog.cellsOf 39=5:=by kernel_rfl
theorem Uk:prog.cellsOf 236=64:=by kernel_rfl
theorem Xt:prog.cellsOf 22=1:=by kernel_rfl
theorem Xu:prog.cellsOf 23=1:=by kernel_rfl
theorem Xv:prog.cellsOf 35=1:=by kernel_rfl
theorem Xw:prog.cellsOf 36=1:=by kernel_rfl
theorem Xx:prog.cellsOf 37=1:=by kernel_rfl
theorem Xy:prog.cellsOf 83=1:=by kernel_rfl
theorem L8 (l:List Nat):l.flatMap (fun z:Nat=>[Value.int .u8 (z:Nat)])=ag l:=by
 unfold ag;induction l with
 | nil=>rfl
 | cons x l ih=>rw [aaF,ih];rfl
theorem zA {α β:Type} : ∀ l:List (α×β),(l.map (·.1)).zip (l.map (·.2))=l
 | []=>rfl
 | (a,b)::l=>by rw [aat,aat,List.zip_cons_cons,zA l]
section
variable {H:Type} {enc:TypeId×Value→H} {w:World} {base:Nat} {spare:Nat→Bool} {held:Bool} {n:Nat} {cs:List Value} {y:DataW H×List MemPlace}
theorem Oc {t e:TypeId} {len cap:Nat} {A:Option Addr} (ht:prog.underlying t=some (.slice e)) (h:DataW.trod enc prog w base spare held n t [.slice A len cap]=some y):A=none→len=0∧cap=0:=by
 rcases open_slice ht h with ⟨e,_⟩ | ⟨a,len',cap',m,n,D,Pl,e,_⟩
 ·injection e with e
  injection e with e1 e2 e3
  exact fun _=>⟨e2,e3⟩
 ·injection e with e
  injection e with e1
  intro h;rw [h] at e1;cases e1
theorem Ul (h:DataW.trod enc prog w base spare held n 83 cs=some y) (hw:Light prog 83 y.1):∃ A c,∃ l:List Nat,cs=[.slice A l.length c]∧Rd w w.heap.size 1 A l.length (ag l)∧okB l:=by
 obtain ⟨A,c,l,rfl,-,-,-,h4,h5⟩:=je (f:=fun z:Nat=>[Value.int .u8 (z:Nat)]) (Pr:=fun z=>z<256) underlying83 Xq (by omega) (fun n cs y h _=>by
  obtain ⟨z,e,_,hz⟩:=DataW.trod_int underlying5 h;have hz':=wf_u8 hz;exact ⟨z.toNat,by rw [e,show ((z.toNat:Nat):Int)=z by omega],rfl,by omega⟩) h hw
 rw [L8] at h4;exact ⟨A,c,l,rfl,h4,fun x hx=>(h5 x hx).2⟩
theorem L9 (h:DataW.trod enc prog w base spare held n 35 cs=some y) (hw:Light prog 35 y.1):∃ A c,∃ l:List Int,cs=[.slice A l.length c]∧Rd w w.heap.size 1 A l.length (ints l)∧(∀ x∈l,inI x)∧l.length≤9223372036854775807:=by
 obtain ⟨A,c,l,rfl,h1,h2,-,h4,h5⟩:=je (f:=fun z:Int=>[Value.int .i64 z]) (Pr:=fun z=>inI z) underlying35 zy (by omega) (fun n cs y h _=>by obtain ⟨z,e,hz⟩:=jw h;exact ⟨z,e,rfl,hz⟩) h hw;rw [Ou] at h4;unfold maxLen at h2;exact ⟨A,c,l,rfl,h4,fun x hx=>(h5 x hx).2,by omega⟩
theorem VD (h:DataW.trod enc prog w base spare held n 34 cs=some y) (hw:Light prog 34 y.1):∃ A c,∃ l:List Ltr,cs=[.slice A l.length c]∧Rd w w.heap.size 6 A l.length (l.flatMap Ltr.cl)∧(∀ x∈l,x.ok)∧l.length≤9223372036854775807:=by
 obtain ⟨A,c,l,rfl,h1,h2,-,h4,h5⟩:=je underlying34 Jr (by omega) Qc h hw;unfold maxLen at h2;exact ⟨A,c,l,rfl,h4,fun x hx=>(h5 x hx).2,by omega⟩
theorem VE (h:DataW.trod enc prog w base spare held n 23 cs=some y) (hw:Light prog 23 y.1):∃ A c,∃ l:List (List Nat),cs=[.slice A l.length c]∧Rd w w.heap.size 32 A l.length (l.flatMap ag)∧∀ x∈l,dL x:=by
 obtain ⟨A,c,l,rfl,h1,h2,-,h4,h5⟩:=je underlying23 tu (by omega) qj h hw;exact ⟨A,c,l,rfl,h4,fun x hx=>(h5 x hx).2⟩
theorem Yu (h:DataW.trod enc prog w base spare held n 5 cs=some y):∃ b:Nat,cs=[.int .u8 (b:Nat)]∧b<256:=by
 obtain ⟨z,e,_,hz⟩:=DataW.trod_int underlying5 h;have hz':=wf_u8 hz;exact ⟨z.toNat,by rw [e,show ((z.toNat:Nat):Int)=z by omega],by omega⟩
theorem Oe (h:DataW.trod enc prog w base spare held n 36 cs=some y) (hw:Light prog 36 y.1):∃ A c,∃ l:List Tri,cs=[.slice A l.length c]∧Rd w w.heap.size 3 A l.length (l.flatMap Tri.cl)∧∀ x∈l,inI x.1∧inI x.2.1∧inI x.2.2:=by
 obtain ⟨A,c,l,rfl,h1,h2,-,h4,h5⟩:=je (f:=Tri.cl) (Pr:=fun x:Tri=>inI x.1∧inI x.2.1∧inI x.2.2) underlying36 Oa (by omega) (fun n cs y h hw=>by
  obtain ⟨a,b,c,rfl,k0,k1,k2⟩:=VC underlying94 Oa h hw;exact ⟨(a,b,c),rfl,rfl,k0,k1,k2⟩) h hw
 exact ⟨A,c,l,rfl,h4,fun x hx=>(h5 x hx).2⟩
theorem VG (h:DataW.trod enc prog w base spare held n 236 cs=some y) (hw:Light prog 236 y.1):∃ p:List Nat×List Nat,cs=kC p∧(kC p).length=64∧(dL p.1∧dL p.2):=by
 obtain ⟨hl,m,hf⟩:=mZ underlying236 h hw;rw [Uk] at hl;obtain ⟨y0,q0,l0⟩:=hf 0 (by omega);obtain ⟨y1,q1,l1⟩:=hf 1 (by omega);rw [tu] at q0 q1;obtain ⟨a,e0,-,k0⟩:=qj _ _ _ q0 l0;obtain ⟨b,e1,-,k1⟩:=qj _ _ _ q1 l1;rw [show 0*32=0 from rfl] at e0;rw [show 1*32=0+32 from rfl] at e1
 have he:cs=kC (a,b):=by
  rw [←aa3 (l:=cs),aY cs 0 32,e0,aY cs (0+32) 32,e1,abl (by omega),abe];rfl
 exact ⟨(a,b),he,by rw [←he];exact hl,k0,k1⟩
theorem Um (h:DataW.trod enc prog w base spare held n 37 cs=some y) (hw:Light prog 37 y.1):∃ A c,∃ l:List (List Nat×List Nat),cs=[.slice A l.length c]∧Rd w w.heap.size 64 A l.length (l.flatMap kC)∧∀ x∈l,dL x.1∧dL x.2:=by
 obtain ⟨A,c,l,rfl,h1,h2,-,h4,h5⟩:=je underlying37 Uk (by omega) (fun n cs y h hw=>VG h hw) h hw;exact ⟨A,c,l,rfl,h4,fun x hx=>(h5 x hx).2⟩
theorem WV (h:DataW.trod enc prog w base spare held n 85 cs=some y) (hw:Light prog 85 y.1) :
  ∃ p:Lnk×Value,cs=p.1.cl p.2∧(p.1.cl p.2).length=35∧(p.1.okW∧∃ Ad cd,p.2 = .slice Ad p.1.data.length cd∧Rd w w.heap.size 1 Ad p.1.data.length (ag p.1.data)):=by
 obtain ⟨hl,m,hf⟩:=jo underlying85 h hw;rw [Ui] at hl;obtain ⟨y0,q0,l0⟩:=hf 0 _ rfl;obtain ⟨y1,q1,l1⟩:=hf 1 _ rfl;obtain ⟨y2,q2,l2⟩:=hf 2 _ rfl;obtain ⟨y3,q3,l3⟩:=hf 3 _ rfl;simp only [aa2,aa5,aa4] at q0 q1 q2 q3 l0 l1 l2 l3;rw [zy] at q0 q1;rw [tu] at q2;rw [Xy] at q3;obtain ⟨a,e0,k0⟩:=jw q0;obtain ⟨b,e1,k1⟩:=jw q1;obtain ⟨d,e2,-,k2⟩:=qj _ _ _ q2 l2;obtain ⟨Ad,cd,dt,e3,r3,k3⟩:=Ul q3 l3
 have he:cs=(⟨a,b,d,dt⟩:Lnk).cl (.slice Ad dt.length cd):=by
  rw [←aa3 (l:=cs),aY cs 0 1,e0,aY cs (0+1) 1,e1,aY cs (0+1+1) 32,e2,aY cs (0+1+1+32) 1,e3,abl (by omega),abe];rfl
 exact ⟨(⟨a,b,d,dt⟩,.slice Ad dt.length cd),he,by rw [←he];exact hl,⟨k0,k1,k2,k3⟩,Ad,cd,rfl,r3⟩
theorem VH (h:DataW.trod enc prog w base spare held n 22 cs=some y) (hw:Light prog 22 y.1):∃ A c,∃ l:List Lnk,∃ vs,cs=[.slice A l.length c]∧LksW w w.heap.size A l vs∧l.length≤c:=by
 obtain ⟨A,c,l,rfl,h1,h2,-,h4,h5⟩:=je (f:=fun p:Lnk×Value=>p.1.cl p.2) underlying22 Ui (by omega) (fun n cs y h hw=>WV h hw) h hw;refine ⟨A,c,l.map (·.1),l.map (·.2),by rw [aaQ],⟨?_,by simp,?_,?_⟩,by rw [aaQ];exact h1⟩
 ·unfold kP
  rw [zA,aaQ];exact h4
 ·intro k x hx
  rw [aaD] at hx;obtain ⟨p,hp,rfl⟩:=Option.map_eq_some_iff.1 hx;obtain ⟨_,_,Ad,cd,e,r⟩:=h5 p (aam hp);exact ⟨Ad,cd,by rw [aaD,hp,←e];rfl,r⟩
 ·intro x hx
  obtain ⟨p,hp,rfl⟩:=aaK.1 hx;exact (h5 p hp).2.1
def WW (w:World) (A:Option Addr) (l:List Ltr):Prop:=Rd w w.heap.size 6 A l.length (l.flatMap Ltr.cl)∧(∀ x∈l,x.ok)∧l.length≤9223372036854775807
def IntsIn (w:World) (A:Option Addr) (l:List Int):Prop:=Rd w w.heap.size 1 A l.length (ints l)∧(∀ x∈l,inI x)∧l.length≤9223372036854775807
def Xz (w:World) (cs:List Value) (o:Ofc):Prop:=∃ A c vs Au cu,cs=[.int .i64 o.no,.int .i64 o.secret,.slice A o.chain.length c,.slice Au o.used.length cu]∧LksW w w.heap.size A o.chain vs∧o.chain.length≤c∧(A=none→c=0) ∧
 Rd w w.heap.size 32 Au o.used.length (o.used.flatMap ag)∧(∀ x∈o.used,dL x)∧(Au=none→o.used.length=0∧cu=0)∧inI o.no∧inI o.secret
theorem XA (h:DataW.trod enc prog w base spare held n 25 cs=some y) (hw:Light prog 25 y.1):∃ o,Xz w cs o:=by
 obtain ⟨hl,m,hf⟩:=jo underlying25 h hw;rw [Uj] at hl;obtain ⟨y0,q0,l0⟩:=hf 0 _ rfl;obtain ⟨y1,q1,l1⟩:=hf 1 _ rfl;obtain ⟨y2,q2,l2⟩:=hf 2 _ rfl;obtain ⟨y3,q3,l3⟩:=hf 3 _ rfl;simp only [aa2,aa5,aa4] at q0 q1 q2 q3 l0 l1 l2 l3;rw [zy] at q0 q1;rw [Xt] at q2;rw [Xu] at q3;obtain ⟨a,e0,k0⟩:=jw q0;obtain ⟨b,e1,k1⟩:=jw q1;obtain ⟨A,c,l,vs,e2,r2,hc⟩:=VH q2 l2;obtain ⟨Au,cu,us,e3,r3,k3⟩:=VE q3 l3;rw [e2] at q2;rw [e3] at q3;refine ⟨⟨a,b,l,us⟩,A,c,vs,Au,cu,?_,r2,hc,fun h=>(Oc underlying22 q2 h).2,r3,k3,Oc underlying23 q3,k0,k1⟩;rw [←aa3 (l:=cs),aY cs 0 1,e0,aY cs (0+1) 1,e1,aY cs (0+1+1) 1,e2,aY cs (0+1+1+1) 1,e3,abl (by omega),abe];rfl
theorem VI (h:DataW.trod enc prog w base spare held n 39 cs=some y) (hw:Light prog 39 y.1):∃ (s:TS) (t:Trn),cs=(s.cl t).toList∧TurnAt w w.heap.size s t:=by
 obtain ⟨hl,m,hf⟩:=jo underlying39 h hw;rw [WT] at hl;obtain ⟨y0,q0,l0⟩:=hf 0 _ rfl;obtain ⟨y1,q1,l1⟩:=hf 1 _ rfl;obtain ⟨y2,q2,l2⟩:=hf 2 _ rfl;obtain ⟨y3,q3,l3⟩:=hf 3 _ rfl;obtain ⟨y4,q4,l4⟩:=hf 4 _ rfl;simp only [aa2,aa5,aa4] at q0 q1 q2 q3 q4 l0 l1 l2 l3 l4;rw [Xv] at q0 q1;rw [Xw] at q2 q3;rw [Xx] at q4;obtain ⟨a0,c0,x0,e0,r0,k0,-⟩:=L9 q0 l0;obtain ⟨a1,c1,x1,e1,r1,k1,-⟩:=L9 q1 l1;obtain ⟨a2,c2,x2,e2,r2,k2⟩:=Oe q2 l2;obtain ⟨a3,c3,x3,e3,r3,k3⟩:=Oe q3 l3;obtain ⟨a4,c4,x4,e4,r4,k4⟩:=Um q4 l4;refine ⟨⟨a0,a1,a2,a3,a4,c0,c1,c2,c3,c4⟩,⟨x0,x1,x2,x3,x4⟩,?_,r0,r1,r2,r3,r4,k0,k1,k2,k3,k4⟩;rw [←aa3 (l:=cs),aY cs 0 1,e0,aY cs (0+1) 1,e1,aY cs (0+1+1) 1,e2,aY cs (0+1+1+1) 1,e3,aY cs (0+1+1+1+1) 1,e4,abl (by omega),abe];rfl
end
end
end Go.Proofs.YthbibbkbaphpkaaGreatDoor

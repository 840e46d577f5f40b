/- equal.Bare: what it writes, in plain words. -/
import Derived.Test.YthbibbkbaphpkaaGreatDoorMag
import Derived.Laws.MakeOwn
import Derived.Deep.MidRow
set_option maxHeartbeats 16000000
set_option maxRecDepth 1000000
namespace Go.Proofs.YthbibbkbaphpkaaGreatDoor
open _root_.Go.Proofs.Tryz
section
open Go.RowKit
def Ltr.setAt (x:Ltr) (k:Fin 3) (a b:Int):Ltr:=match k with
 | 0=>{ x with a0:=a,b0:=b }
 | 1=>{ x with a1:=a,b1:=b }
 | 2=>{ x with a2:=a,b2:=b }
theorem Ltr.setAt_same (x:Ltr) (k:Fin 3) (a b:Int):(x.setAt k a b).aAt k=a∧(x.setAt k a b).bAt k=b:=by match k with | 0=>exact ⟨rfl,rfl⟩ | 1=>exact ⟨rfl,rfl⟩ | 2=>exact ⟨rfl,rfl⟩
theorem Ltr.setAt_other (x:Ltr) (k j:Fin 3) (a b:Int) (h:j≠k):(x.setAt k a b).aAt j=x.aAt j∧(x.setAt k a b).bAt j=x.bAt j:=by
 match k,j with
 | 0,0=>exact absurd rfl h
 | 0,1=>exact ⟨rfl,rfl⟩
 | 0,2=>exact ⟨rfl,rfl⟩
 | 1,0=>exact ⟨rfl,rfl⟩
 | 1,1=>exact absurd rfl h
 | 1,2=>exact ⟨rfl,rfl⟩
 | 2,0=>exact ⟨rfl,rfl⟩
 | 2,1=>exact ⟨rfl,rfl⟩
 | 2,2=>exact absurd rfl h
theorem Ltr.ext_at {x y:Ltr} (h:∀ k,x.aAt k=y.aAt k∧x.bAt k=y.bAt k):x=y:=by
 obtain ⟨a0,b0⟩:=h 0;obtain ⟨a1,b1⟩:=h 1;obtain ⟨a2,b2⟩:=h 2;cases x;cases y
 simp only [Ltr.aAt,Ltr.bAt] at *;subst a0;subst b0;subst a1;subst b1;subst a2;subst b2;rfl
def wrZ {l:List Ltr} (f:Int→Int→Int×Int) (st:List Ltr) (z:Pl l):List Ltr:=st.set z.i ((st.getD z.i aB).setAt z.k (f z.a z.b).1 (f z.a z.b).2)
theorem JY {l:List Ltr} (f:Int→Int→Int×Int) (st:List Ltr) (z:Pl l):(wrZ f st z).length=st.length:=by simp [wrZ]
def Ltr.by (f:Int→Int→Int×Int) (x:Ltr):Ltr:=⟨(f x.a0 x.b0).1,(f x.a0 x.b0).2,(f x.a1 x.b1).1,(f x.a1 x.b1).2,(f x.a2 x.b2).1,(f x.a2 x.b2).2⟩
theorem Ltr.by_at (f:Int→Int→Int×Int) (x:Ltr) (k:Fin 3):(x.by f).aAt k=(f (x.aAt k) (x.bAt k)).1∧(x.by f).bAt k=(f (x.aAt k) (x.bAt k)).2:=by match k with | 0=>exact ⟨rfl,rfl⟩ | 1=>exact ⟨rfl,rfl⟩ | 2=>exact ⟨rfl,rfl⟩
theorem UJ {α:Type} {P:List α→Prop} (h0:P []) (h1:∀ l x,P l→P (l++[x])) (l:List α):P l:=by
 have:∀ r:List α,P r.reverse:=fun r=>by
  induction r with
  | nil=>exact h0
  | cons x r ih=>rw [List.reverse_cons];exact h1 _ _ ih
 simpa using this l.reverse
theorem Bg {l:List Ltr} (f:Int→Int→Int×Int) (pre:List (Pl l)):(pre.foldl (wrZ f) (List.replicate l.length aB)).length=l.length ∧
  ∀ z∈pre,((pre.foldl (wrZ f) (List.replicate l.length aB)).getD z.i aB).aAt z.k=(f z.a z.b).1∧((pre.foldl (wrZ f) (List.replicate l.length aB)).getD z.i aB).bAt z.k=(f z.a z.b).2:=by
 refine UJ (P:=fun pre=>(pre.foldl (wrZ f) (List.replicate l.length aB)).length=l.length ∧
  ∀ z∈pre,((pre.foldl (wrZ f) (List.replicate l.length aB)).getD z.i aB).aAt z.k=(f z.a z.b).1∧((pre.foldl (wrZ f) (List.replicate l.length aB)).getD z.i aB).bAt z.k=(f z.a z.b).2) ?_ ?_ pre
 ·exact ⟨by simp,fun z hz=>by cases hz⟩
 ·intro pre w ih
  obtain ⟨h1,h2⟩:=ih;rw [List.foldl_append];simp only [List.foldl_cons,List.foldl_nil];generalize pre.foldl (wrZ f) (List.replicate l.length aB)=st at *;refine ⟨by rw [JY,h1],fun z hz=>?_⟩;have hlt:w.i<st.length:=by rw [h1];exact w.hi
  by_cases hi:z.i=w.i
  ·have hget:(wrZ f st w).getD z.i aB=(st.getD w.i aB).setAt w.k (f w.a w.b).1 (f w.a w.b).2:=by
    rw [hi];unfold wrZ;rw [aaU,List.getElem?_set_self hlt];rfl
   rw [hget];by_cases hk:z.k=w.k
   ·have hzw:z=w:=by cases z;cases w;simp only at hi hk;subst hi;subst hk;rfl
    subst hzw;exact Ltr.setAt_same _ _ _ _
   ·have:=Ltr.setAt_other (st.getD w.i aB) w.k z.k (f w.a w.b).1 (f w.a w.b).2 hk
    rw [this.1,this.2];rcases aaL.1 hz with hz | hz
    ·have:=h2 z hz;rw [hi] at this;exact this
    ·obtain rfl:z=w:=by simpa using hz
     exact absurd rfl hk
  ·have hget:(wrZ f st w).getD z.i aB=st.getD z.i aB:=by
    unfold wrZ;rw [aaU,List.getElem?_set_ne (fun e=>hi e.symm),←aaU]
   rw [hget];rcases aaL.1 hz with hz | hz
   ·exact h2 z hz
   ·obtain rfl:z=w:=by simpa using hz
    exact absurd rfl hi
theorem MQ {l:List Ltr} (f:Int→Int→Int×Int) {pre:List (Pl l)} (h:∀ z:Pl l,z∈pre):pre.foldl (wrZ f) (List.replicate l.length aB)=l.map (Ltr.by f):=by
 obtain ⟨h1,h2⟩:=Bg f pre;apply List.ext_getElem?;intro i;rcases aa0 i l.length with hi | hi
 ·have hk:∀ k,((pre.foldl (wrZ f) (List.replicate l.length aB)).getD i aB).aAt k=((l[i]).by f).aAt k∧((pre.foldl (wrZ f) (List.replicate l.length aB)).getD i aB).bAt k=((l[i]).by f).bAt k:=fun k=>by
   have:=h2 ⟨i,k,hi⟩ (h _)
   have hb:=Ltr.by_at f l[i] k;exact ⟨this.1.trans hb.1.symm,this.2.trans hb.2.symm⟩
  have he:=Ltr.ext_at hk;rw [aaD,aac hi,aac (by rw [h1];exact hi)];rw [aaU,aac (by rw [h1];exact hi)] at he;exact congrArg some he
 ·rw [abA (by rw [h1];exact hi),abA (by simpa using hi)]
theorem Hy {st:List Ltr} : ∀ {i j:Nat} {v:Value} (x y:Ltr),st[i]?=some x→j<6→y.cl=x.cl.set j v→(st.set i y).flatMap Ltr.cl=(st.flatMap Ltr.cl).set (i*6+j) v:=by
 induction st with
 | nil=>intro i j v x y h;simp at h
 | cons s st ih =>
  intro i j v x y h hj he;cases i with
  | zero =>
   obtain rfl:s=x:=(by simpa using h);rw [aai,aaF,aaF,he,Nat.zero_mul,aax,List.set_append_left _ _ (by rw [Ltr.cl_length];exact hj)]
  | succ i =>
   rw [aah,aaF,aaF,ih x y (by simpa using h) hj he,abw _ _ (by rw [Ltr.cl_length];omega),Ltr.cl_length];congr 2;omega
theorem Ea {l:List Ltr} (f:Int→Int→Int×Int) (st:List Ltr) (z:Pl l) (hz:z.i<st.length) :
  ((wrZ f st z).flatMap Ltr.cl).toArray=(((st.flatMap Ltr.cl).toArray.setIfInBounds (z.i*6+z.k.val*2) (.int .i64 (f z.a z.b).1)).setIfInBounds (z.i*6+z.k.val*2+1) (.int .i64 (f z.a z.b).2)):=by
 obtain ⟨x,hx⟩:∃ x,st[z.i]?=some x:=⟨_,aac hz⟩
 have hk:=z.k.isLt;have e:st.getD z.i aB=x:=by rw [aaU,hx];rfl
 unfold wrZ;rw [e];generalize (f z.a z.b).1=a at *;generalize (f z.a z.b).2=b at *;obtain ⟨i,k,hi⟩:=z;dsimp only at *;rw [aaf,aaf];congr 1
 have key:∀ (k:Fin 3),∃ y:Ltr,y.cl=x.cl.set (k.val*2) (.int .i64 a)∧(x.setAt k a b).cl=y.cl.set (k.val*2+1) (.int .i64 b):=fun k=>by
  match k with
  | 0=>exact ⟨{ x with a0:=a },rfl,rfl⟩
  | 1=>exact ⟨{ x with a1:=a },rfl,rfl⟩
  | 2=>exact ⟨{ x with a2:=a },rfl,rfl⟩
 obtain ⟨y,hy1,hy2⟩:=key k;rw [←Hy x y hx (by omega) hy1];have h2:=Hy (st:=st.set i y) (i:=i) (j:=k.val*2+1) (v := .int .i64 b) y (x.setAt k a b) (List.getElem?_set_self hz) (by omega) hy2;rw [List.set_set] at h2;rw [h2,aay]
theorem JZ (n:Nat):((List.replicate n aB).flatMap Ltr.cl).toArray=Array.replicate (n*6) (.int .i64 0):=by
 have:(List.replicate n aB).flatMap Ltr.cl=List.replicate (n*6) (.int .i64 0):=by
  induction n with
  | zero=>rfl
  | succ n ih=>rw [List.replicate_succ,aaF,ih,abh,Nat.add_comm,←List.replicate_append_replicate];rfl
 rw [this];simp
def iE (s:Int) (a b:Int):Int×Int:=(a,iF [b,aJ (aJ a s) (-1)])
def rX (s:Int) (a _b:Int):Int×Int:=(iT s a,kM s a)
def bu (s:Int) (l:List Ltr):List Ltr:=l.map (Ltr.by (iE s))
def nV (s:Int) (l:List Ltr):List Ltr:=l.map (Ltr.by (rX s))
attribute [local go_sem] Oper.semAt_some
theorem Blk.dr {w:World} {g:Nat} {t:TypeId} {cs:Array Value} (h:Blk w g t cs):Blk w.drew g t cs:=h
theorem Eb (n:Nat):madeCells aB.cells (n*6)=((List.replicate n aB).flatMap Ltr.cl).toArray:=by
 rw [JZ];apply Array.ext
 ·rw [size_madeCells,Array.size_replicate]
 ·intro i h1 h2
  simp only [madeCells,Array.getElem_map,Array.getElem_range,Array.getElem_replicate];have h6:i % 6<6:=aaC _ (by omega);show aB.cells[i % 6]! = _;generalize i % 6=j at *;obtain rfl | rfl | rfl | rfl | rfl | rfl:j=0∨j=1∨j=2∨j=3∨j=4∨j=5:=by omega
  all_goals rfl
theorem Hz:(prog.info? 63).map (fun i=>(i.zero,i.size,i.bytes))=some (some (.agg aB.cells),6,48):=by kernel_rfl
theorem Q4:(prog.info? 199).map (fun i=>(i.zero,i.size,i.bytes))=some (some (.agg aB.cells),6,48):=by kernel_rfl
theorem wH (n:Nat) (hn:n≤100000) (w:World):(Instr.makeSlice 34 (.int .i64 (n:Nat)) (.int .i64 (n:Nat))).run prog w = .ok (.slice (some ⟨w.heap.size,0,none⟩) n n) (w.alloc (.cells ((List.replicate n aB).flatMap Ltr.cl).toArray 63)):=by
 obtain ⟨i0,hi,hz0,hz1,hz2⟩:=info_parts Hz
 have:=run_makeSlice (w:=w) (P:=prog) 34 63 i0 (.agg aB.cells) underlying34 hi hz0 .i64 .i64 (n:Int) n (by omega) (Int.le_refl _) (by rw [hz1,aba];omega) (by rw [hz2];omega) (by omega)
 rw [←Eb];rw [aba,hz1] at this;exact this
theorem H6 (n:Nat) (hn:n≤100000) (w:World):(Instr.makeSlice 45 (.int .i64 (n:Nat)) (.int .i64 (n:Nat))).run prog w = .ok (.slice (some ⟨w.heap.size,0,none⟩) n n) (w.alloc (.cells ((List.replicate n aB).flatMap Ltr.cl).toArray 199)):=by
 obtain ⟨i0,hi,hz0,hz1,hz2⟩:=info_parts Q4
 have:=run_makeSlice (w:=w) (P:=prog) 45 199 i0 (.agg aB.cells) underlying45 hi hz0 .i64 .i64 (n:Int) n (by omega) (Int.le_refl _) (by rw [hz1,aba];omega) (by rw [hz2];omega) (by omega)
 rw [←Eb];rw [aba,hz1] at this;exact this
def y8 (s:Int) (l:List Ltr):Int:=if iO s=true then jv l else 110
def MR (s:Int) (l:List Ltr) (w:World) (r:Ending) (w':World):Prop :=
 Below w.heap.size w w'∧(y8 s l≠0→r = .returned (.tuple #[.slice none 0 0,.slice none 0 0,.int .i64 (y8 s l)])) ∧
 (y8 s l=0→∃ g1 g2,r = .returned (.tuple #[.slice (some ⟨g1,0,none⟩) l.length l.length,.slice (some ⟨g2,0,none⟩) l.length l.length,.int .i64 0]) ∧
  w.heap.size≤g1∧w.heap.size≤g2∧Blk w' g1 63 ((bu s l).flatMap Ltr.cl).toArray∧Blk w' g2 199 ((nV s l).flatMap Ltr.cl).toArray)
def Two (W:World) (n:Nat) (s:Int) (X Y:Array Value) (wc:World):Prop :=
 ∃ g1 g2,W.heap.size+1+1<g1∧W.heap.size+1+1<g2∧g1≠g2∧Below W.heap.size W wc∧Blk wc W.heap.size 3 #[.int .i64 s]∧Blk wc (W.heap.size+1) 34 #[.slice (some ⟨g1,0,none⟩) n n]∧Blk wc (W.heap.size+1+1) 45 #[.slice (some ⟨g2,0,none⟩) n n] ∧
   Blk wc g1 63 X∧Blk wc g2 199 Y
section
variable {W w5:World} {n:Nat} {s:Int} {X Y:Array Value} {u v:Value} (h3:Below W.heap.size W w5) (hlt:W.heap.size+1+1<w5.heap.size) (BS:Blk w5 W.heap.size 3 #[.int .i64 s])
 (BX:Blk w5 (W.heap.size+1) 34 #[u]) (BP:Blk w5 (W.heap.size+1+1) 45 #[v])
include h3 hlt BS BX BP
theorem Xd:Two W n s X Y ((((w5.alloc (.cells X 63)).alloc (.cells Y 199)).setCell ⟨W.heap.size+1,0,none⟩ (.slice (some ⟨w5.heap.size,0,none⟩) n n)).setCell ⟨W.heap.size+1+1,0,none⟩ (.slice (some ⟨w5.heap.size+1,0,none⟩) n n)).drew:=by
 refine ⟨w5.heap.size,w5.heap.size+1,hlt,by omega,by omega,?_,?_,?_,?_,?_,?_⟩
 ·exact bDr (zQ7 (zQ7 (bAl (bAl h3 _) _) (by show W.heap.size≤W.heap.size+1;omega) _) (by show W.heap.size≤W.heap.size+1+1;omega) _)
 ·exact Blk.dr ((((BS.alloc _).alloc _).far (by show W.heap.size≠W.heap.size+1;omega) _).far (by show W.heap.size≠W.heap.size+1+1;omega) _)
 ·exact Blk.dr ((((BX.alloc _).alloc _).set1 _).far (by show W.heap.size+1≠W.heap.size+1+1;omega) _)
 ·exact Blk.dr ((((BP.alloc _).alloc _).far (by show W.heap.size+1+1≠W.heap.size+1;omega) _).set1 _)
 ·exact Blk.dr ((((Blk.new w5 _ X _ rfl).alloc _).far (by show w5.heap.size≠W.heap.size+1;omega) _).far (by show w5.heap.size≠W.heap.size+1+1;omega) _)
 ·exact Blk.dr (((Blk.new _ _ Y (w5.heap.size+1) (by simp)).far (by show w5.heap.size+1≠W.heap.size+1;omega) _).far (by show w5.heap.size+1≠W.heap.size+1+1;omega) _)
theorem Xe:Two W n s X Y ((((w5.alloc (.cells Y 199)).alloc (.cells X 63)).setCell ⟨W.heap.size+1,0,none⟩ (.slice (some ⟨w5.heap.size+1,0,none⟩) n n)).setCell ⟨W.heap.size+1+1,0,none⟩ (.slice (some ⟨w5.heap.size,0,none⟩) n n)).drew:=by
 refine ⟨w5.heap.size+1,w5.heap.size,by omega,hlt,by omega,?_,?_,?_,?_,?_,?_⟩
 ·exact bDr (zQ7 (zQ7 (bAl (bAl h3 _) _) (by show W.heap.size≤W.heap.size+1;omega) _) (by show W.heap.size≤W.heap.size+1+1;omega) _)
 ·exact Blk.dr ((((BS.alloc _).alloc _).far (by show W.heap.size≠W.heap.size+1;omega) _).far (by show W.heap.size≠W.heap.size+1+1;omega) _)
 ·exact Blk.dr ((((BX.alloc _).alloc _).set1 _).far (by show W.heap.size+1≠W.heap.size+1+1;omega) _)
 ·exact Blk.dr ((((BP.alloc _).alloc _).far (by show W.heap.size+1+1≠W.heap.size+1;omega) _).set1 _)
 ·exact Blk.dr (((Blk.new _ _ X (w5.heap.size+1) (by simp)).far (by show w5.heap.size+1≠W.heap.size+1;omega) _).far (by show w5.heap.size+1≠W.heap.size+1+1;omega) _)
 ·exact Blk.dr ((((Blk.new w5 _ Y _ rfl).alloc _).far (by show w5.heap.size≠W.heap.size+1;omega) _).far (by show w5.heap.size≠W.heap.size+1+1;omega) _)
theorem Xf:Two W n s X Y ((((w5.alloc (.cells X 63)).setCell ⟨W.heap.size+1,0,none⟩ (.slice (some ⟨w5.heap.size,0,none⟩) n n)).alloc (.cells Y 199)).setCell ⟨W.heap.size+1+1,0,none⟩ (.slice (some ⟨w5.heap.size+1,0,none⟩) n n)).drew:=by
 refine ⟨w5.heap.size,w5.heap.size+1,hlt,by omega,by omega,?_,?_,?_,?_,?_,?_⟩
 ·exact bDr (zQ7 (bAl (zQ7 (bAl h3 _) (by show W.heap.size≤W.heap.size+1;omega) _) _) (by show W.heap.size≤W.heap.size+1+1;omega) _)
 ·exact Blk.dr ((((BS.alloc _).far (by show W.heap.size≠W.heap.size+1;omega) _).alloc _).far (by show W.heap.size≠W.heap.size+1+1;omega) _)
 ·exact Blk.dr ((((BX.alloc _).set1 _).alloc _).far (by show W.heap.size+1≠W.heap.size+1+1;omega) _)
 ·exact Blk.dr ((((BP.alloc _).far (by show W.heap.size+1+1≠W.heap.size+1;omega) _).alloc _).set1 _)
 ·exact Blk.dr ((((Blk.new w5 _ X _ rfl).far (by show w5.heap.size≠W.heap.size+1;omega) _).alloc _).far (by show w5.heap.size≠W.heap.size+1+1;omega) _)
 ·exact Blk.dr ((Blk.new _ _ Y (w5.heap.size+1) (by simp [World.setCell])).far (by show w5.heap.size+1≠W.heap.size+1+1;omega) _)
end
theorem J3 (s:Int) (A:Option Addr) (n ca:Nat) (l:List Ltr) (W:World) (hA:Rd W W.heap.size 6 A n (l.flatMap Ltr.cl)) (hn:n≤9223372036854775807) (hG:ShaG W) :
  Calls prog 54 #[.int .i64 s,.slice A n ca] W (MR s l W):=by
 obtain rfl:l.length=n:=iR hA;refine dQ func54 rfl ?_;obtain ⟨W3,hW3⟩:∃ W3,W3=((W.alloc (.cells #[.int .i64 s] 3)).alloc (.cells #[.slice none 0 0] 34)).alloc (.cells #[.slice none 0 0] 45):=⟨_,rfl⟩
 have h3:Below W.heap.size W W3:=by rw [hW3];exact bAl (bAl (bAl (aj W) _) _) _
 have BS:Blk W3 W.heap.size 3 #[.int .i64 s]:=by rw [hW3];exact ((Blk.new _ _ _ _ rfl).alloc _).alloc _
 have BX:Blk W3 (W.heap.size+1) 34 #[.slice none 0 0]:=by rw [hW3];exact (Blk.new _ _ _ _ (by simp)).alloc _
 have BP:Blk W3 (W.heap.size+1+1) 45 #[.slice none 0 0]:=by rw [hW3];exact Blk.new _ _ _ _ (by simp)
 simp only [ntmps54,aae,aas,List.length_nil,Nat.reduceAdd,Nat.reduceSub,aaV,aaW,aaX,aaY,aaJ,aaN];have q1:=pM s W3;obtain ⟨k0,_⟩:=BS.one_;go_upto_region 1 with fail;rw [←hW3];clear hW3;cases hs:iO s
 ·have He:Hid (y8 s l=110):=by show _=_;unfold y8;rw [hs];rfl
  have e2:x8 s=110:=by unfold x8;rw [hs];rfl
  rw [e2] at q1;clear hs e2;go_wp2_with fail;refine q1.mono ?_;rintro e w4 ⟨rfl,b4⟩;clear q1 k0;replace h3:=ah h3 b4;replace BX:=BX.below b4 BX.lt;replace BP:=BP.below b4 BP.lt;obtain ⟨x0,z0⟩:=BX.one_;obtain ⟨x1,z1⟩:=BP.one_;have e0:=((BX.set1 (.slice none 0 0)).far (p:=⟨W.heap.size+1+1,0,none⟩) (by show W.heap.size+1≠W.heap.size+1+1;omega) (.slice none 0 0)).one_.1;have e1:=((BP.far (p:=⟨W.heap.size+1,0,none⟩) (by show W.heap.size+1+1≠W.heap.size+1;omega) (.slice none 0 0)).set1 (.slice none 0 0)).one_.1;go_wp2_with fail;refine ⟨.tuple #[.slice none 0 0,.slice none 0 0,.int .i64 110],by simp [results,results54,go_sem,e0,e1],?_⟩;refine ⟨zQ7 (zQ7 h3 (by show W.heap.size≤W.heap.size+1;omega) _) (by show W.heap.size≤W.heap.size+1+1;omega) _,fun _=>by rw [He.out],fun h=>by rw [He.out] at h;omega⟩
 ·have He:Hid (y8 s l=jv l):=by show _=_;unfold y8;rw [hs];rfl
  have e2:x8 s=0:=by unfold x8;rw [if_pos hs];unfold zC;rw [if_pos aV]
  have Hs:=aab hs;rw [e2] at q1;clear hs e2;go_wp2_with fail;refine q1.mono ?_;rintro e w4 ⟨rfl,b4⟩;clear q1 k0;replace h3:=ah h3 b4;replace BX:=BX.below b4 BX.lt;replace BP:=BP.below b4 BP.lt;replace BS:=BS.below b4 BS.lt;have q2:=tX A l.length ca l w4 (hA.below h3 |>.more h3.size) hn;by_cases h5:jv l=0
  case neg =>
   have t5:(jv l != 0)=true:=(by rw [bne_iff_ne];exact h5);have H5:Hid (jv l≠0):=h5;clear h5;generalize jv l=er at *;go_wp2_with fail;refine q2.mono ?_;rintro e w5 ⟨rfl,b5⟩;clear q2;replace h3:=ah h3 b5;replace BX:=BX.below b5 BX.lt;replace BP:=BP.below b5 BP.lt;obtain ⟨x0,z0⟩:=BX.one_;obtain ⟨x1,z1⟩:=BP.one_;have e0:=((BX.set1 (.slice none 0 0)).far (p:=⟨W.heap.size+1+1,0,none⟩) (by show W.heap.size+1≠W.heap.size+1+1;omega) (.slice none 0 0)).one_.1;have e1:=((BP.far (p:=⟨W.heap.size+1,0,none⟩) (by show W.heap.size+1+1≠W.heap.size+1;omega) (.slice none 0 0)).set1 (.slice none 0 0)).one_.1;go_wp2_with fail;refine ⟨.tuple #[.slice none 0 0,.slice none 0 0,.int .i64 er],by simp [results,results54,go_sem,e0,e1],?_⟩;refine ⟨zQ7 (zQ7 h3 (by show W.heap.size≤W.heap.size+1;omega) _) (by show W.heap.size≤W.heap.size+1+1;omega) _,fun _=>by rw [He.out],fun h=>by rw [He.out] at h;exact absurd h H5.out⟩
  case pos =>
  have hlen:l.length≤64:=by unfold jv at h5;split at h5 <;> omega
  have hgl : Hid (l.all Ltr.good = true) := by show _ = _; unfold jv at h5; split at h5; · omega
                                               split at h5;· assumption
                                               omega
  rw [h5] at q2 He;clear h5;go_wp2_with fail;refine q2.mono ?_;rintro e w5 ⟨rfl,b5⟩;clear q2;replace h3:=ah h3 b5;replace BX:=BX.below b5 BX.lt;replace BP:=BP.below b5 BP.lt;replace BS:=BS.below b5 BS.lt;clear b4 b5;have m1:=wH l.length (by omega);have m2:=H6 l.length (by omega);obtain ⟨x0,z0⟩:=BX.one_;obtain ⟨x1,z1⟩:=BP.one_;have hlt:=BP.lt;obtain ⟨v0,v1⟩:=((BX.alloc (.cells ((List.replicate l.length aB).flatMap Ltr.cl).toArray 63)).alloc (.cells ((List.replicate l.length aB).flatMap Ltr.cl).toArray 199)).one_;obtain ⟨v8,v9⟩:=(BX.alloc (.cells ((List.replicate l.length aB).flatMap Ltr.cl).toArray 63)).one_;obtain ⟨v10,v11⟩:=(((BP.alloc (.cells ((List.replicate l.length aB).flatMap Ltr.cl).toArray 63)).far (p:=⟨W.heap.size+1,0,none⟩) (by show W.heap.size+1+1≠W.heap.size+1;omega) (.slice (some ⟨w5.heap.size,0,none⟩) l.length l.length)).alloc (.cells ((List.replicate l.length aB).flatMap Ltr.cl).toArray 199)).one_;obtain ⟨v2,v3⟩:=((BX.alloc (.cells ((List.replicate l.length aB).flatMap Ltr.cl).toArray 199)).alloc (.cells ((List.replicate l.length aB).flatMap Ltr.cl).toArray 63)).one_;obtain ⟨v4,v5⟩:=((BP.alloc (.cells ((List.replicate l.length aB).flatMap Ltr.cl).toArray 63)).alloc (.cells ((List.replicate l.length aB).flatMap Ltr.cl).toArray 199)).one_;obtain ⟨v6,v7⟩:=((BP.alloc (.cells ((List.replicate l.length aB).flatMap Ltr.cl).toArray 199)).alloc (.cells ((List.replicate l.length aB).flatMap Ltr.cl).toArray 63)).one_;go_upto_region 7 with fail;go_cut [] from 12 to 68 (fun wc=>Two W l.length s ((List.replicate l.length aB).flatMap Ltr.cl).toArray ((List.replicate l.length aB).flatMap Ltr.cl).toArray wc)
  case first =>
   go_region
   all_goals
    go_wp2_with fail;go_meet;clear m1 m2 x0 z0 x1 z1 v0 v1 v2 v3 v4 v5 v6 v7 v8 v9 v10 v11
    first
     | with_reducible exact Xd h3 hlt BS BX BP
     | with_reducible exact Xe h3 hlt BS BX BP
     | with_reducible exact Xf h3 hlt BS BX BP
     | fail
  case rest =>
  clear m1 m2 x0 z0 x1 z1 v0 v1 v2 v3 v4 v5 v6 v7 v8 v9 v10 v11 BS BX BP h3 hlt;obtain ⟨g1,g2,l1,l2,hne,h7,BS,BX,BP,BX2,BP2⟩:=hcut;go_wp2_with fail;refine (uB _ _ ⟨_,_,_,rfl⟩).mono ?_;rintro e w' ⟨rfl,rfl⟩;go_wp2_with fail;obtain ⟨bp,hbp⟩:∃ bp,bp=wc.heap.size:=⟨_,rfl⟩
  have BQ:=Blk.new wc 34 #[.slice A l.length ca] bp hbp;have l3:g1<bp:=by rw [hbp];exact BX2.lt
  have l4:g2<bp:=by rw [hbp];exact BP2.lt
  replace BS:=BS.alloc (.cells #[.slice A l.length ca] 34);replace BX:=BX.alloc (.cells #[.slice A l.length ca] 34);replace BP:=BP.alloc (.cells #[.slice A l.length ca] 34);replace BX2:=BX2.alloc (.cells #[.slice A l.length ca] 34);replace BP2:=BP2.alloc (.cells #[.slice A l.length ca] 34);replace h7:=bAl h7 (.cells #[.slice A l.length ca] 34);rw [←hbp];clear hbp;generalize wc.alloc (.cells #[.slice A l.length ca] 34)=w7 at *
  refine AZ 2 (gf:=201) (lb:=#[.pointer (some ⟨bp,0,none⟩)]) rfl (enters_of func201 (by kernel_rfl) rfl)
   (fun k=>k<W.heap.size∨k=bp) (pW bp W.heap.size l.length ca A l (fun k=>k<W.heap.size∨k=bp) (.inr rfl) w7 h7.size (fun k hk => .inl hk) BQ (hA.below h7) hn) (fun k hk=>by have h1:=BQ.lt;have h2:=h7.size;omega) (fun _=>rfl) W h7
   (fun pre=>[(W.heap.size,3,#[.int .i64 s]),(W.heap.size+1,34,#[.slice (some ⟨g1,0,none⟩) l.length l.length]),(W.heap.size+1+1,45,#[.slice (some ⟨g2,0,none⟩) l.length l.length]),(g1,63,((pre.foldl (wrZ (iE s)) (List.replicate l.length aB)).flatMap Ltr.cl).toArray),(g2,199,((pre.foldl (wrZ (rX s)) (List.replicate l.length aB)).flatMap Ltr.cl).toArray),(bp,34,#[.slice A l.length ca])])
   (fun _=>True) (fun _ _=>[]) (fun _ _=>False) ⟨BS,BX,BP,BX2,BP2,BQ,trivial⟩ trivial ?round ?done ?stop
  case stop=>exact fun _ _ _ _ _ _ _ _ h=>h.elim
  case round =>
   rintro _ pre z W0 hlen2 hb0 ⟨c1,c2,c3,c4,c5,c6,_⟩ _;clear BS BX BP BX2 BP2 BQ h7;dsimp only at c1 c2 c3 c4 c5 c6;have hst1:=(Bg (iE s) pre).1;have hst2:=(Bg (rX s) pre).1;have hz1:=Ea (iE s) (pre.foldl (wrZ (iE s)) (List.replicate l.length aB)) z (by rw [hst1];exact z.hi);have hz2:=Ea (rX s) (pre.foldl (wrZ (rX s)) (List.replicate l.length aB)) z (by rw [hst2];exact z.hi);have hf1:Hid ((pre++[z]).foldl (wrZ (iE s)) (List.replicate l.length aB)=wrZ (iE s) (pre.foldl (wrZ (iE s)) (List.replicate l.length aB)) z):=(by show _=_;rw [List.foldl_append];rfl);have hf2:Hid ((pre++[z]).foldl (wrZ (rX s)) (List.replicate l.length aB)=wrZ (rX s) (pre.foldl (wrZ (rX s)) (List.replicate l.length aB)) z):=(by show _=_;rw [List.foldl_append];rfl);have hs1:((pre.foldl (wrZ (iE s)) (List.replicate l.length aB)).flatMap Ltr.cl).toArray.size=l.length*6:=(by rw [aae,lW Ltr.cl_length,hst1]);have hs2:((pre.foldl (wrZ (rX s)) (List.replicate l.length aB)).flatMap Ltr.cl).toArray.size=l.length*6:=(by rw [aae,lW Ltr.cl_length,hst2]);generalize pre.foldl (wrZ (iE s)) (List.replicate l.length aB)=st1 at *;generalize pre.foldl (wrZ (rX s)) (List.replicate l.length aB)=st2 at *;obtain ⟨i,k,hi⟩:=z;obtain ⟨X,hX⟩:∃ X,Hid (l[i]?=some X):=⟨_,aab (aac hi)⟩
   have hza:(⟨i,k,hi⟩:Pl l).a=X.aAt k:=(by obtain ⟨_,rfl⟩:=aag.1 hX.out;rfl);have hzb:(⟨i,k,hi⟩:Pl l).b=X.bAt k:=(by obtain ⟨_,rfl⟩:=aag.1 hX.out;rfl);rw [hza,hzb] at hz1 hz2;dsimp only [iE,rX] at hz1 hz2;have Hz1:=aab hz1;have Hz2:=aab hz2;clear hza hzb hz1 hz2 hst1 hst2;rw [Be hX.out k hi];have hXv:aA (X.aAt k)=true:=(kG (aau.1 hgl.out X (aam hX.out)) k).1;have HXv:=aab hXv;clear hXv
   gi_wp2
   refine ⟨[(W0.heap.size,195,#[.int .i64 (i:Nat),.int .i64 (k.val:Nat)]),(W0.heap.size+1,61,#[.int .i64 (X.aAt k),.int .i64 (X.bAt k)])],KeepsOthers.below (bAl (bAl (aj _) _) _),Keeps.of_below (bAl (bAl (aj _) _) _) (fun j hj=>by have h1:=c6.lt;have h2:=hb0.size;omega),bAl (bAl hb0 _) _,⟨(Blk.new _ _ _ _ rfl).alloc _,Blk.new _ _ _ _ (by simp),(c1.alloc _).alloc _,(c2.alloc _).alloc _,(c3.alloc _).alloc _,(c4.alloc _).alloc _,(c5.alloc _).alloc _,(c6.alloc _).alloc _,trivial⟩,fun L Wc hbc hBl=>?_⟩;have ht2:=c6.lt;clear c1 c2 c3 c4 c5 c6;generalize W0.heap.size=s0 at *;obtain ⟨d1,d2,c1,c2,c3,c4,c5,c6,_⟩:=hBl;dsimp only at c1 c2 c3 c4 c5 c6 d1 d2;have hbz:=hbc.size;have hk3:=k.isLt;have i1:(0:Int)≤(i:Int):=(by omega);have i2:(i:Int)<(l.length:Int):=(by omega);have k1:(0:Int)≤(k.val:Int):=(by omega);have k2:(k.val:Int)<3:=(by omega);have q:=Hw s (X.aAt k) Wc Hs.out HXv.out (hG.below hbc);obtain ⟨x0,_⟩:=c1.one_;obtain ⟨x1,x2⟩:=d2.two
   gi_wp2_with fail
   refine ⟨trivial,?_⟩;refine (inR L q).mono ?_;rintro e w1 ⟨rfl,b1⟩;clear q x0 x1 x2;have kO:=KeepsOthers.below b1;have kK:Keeps (fun k=>k<W.heap.size∨k=bp) Wc w1:=Keeps.of_below b1 (fun j hj=>by have:=c6.lt;omega);have hb1:=hbc.trans (b1.mono hbz);replace c1:=c1.below b1 c1.lt;replace c2:=c2.below b1 c2.lt;replace c3:=c3.below b1 c3.lt;replace c4:=c4.below b1 c4.lt;replace c5:=c5.below b1 c5.lt;replace c6:=c6.below b1 c6.lt;replace d1:=d1.below b1 d1.lt;replace d2:=d2.below b1 d2.lt;clear b1
   gi_wp2_with fail
   have b2:=bAl (aj w1) (.cells #[.int .i64 (iT s (X.aAt k)),.int .i64 (kM s (X.aAt k))] 196);have D3:=Blk.new w1 196 #[.int .i64 (iT s (X.aAt k)),.int .i64 (kM s (X.aAt k))] _ rfl;have hs2lt:=d2.lt;have hs2lt2:=d1.lt;generalize w1.alloc (.cells #[.int .i64 (iT s (X.aAt k)),.int .i64 (kM s (X.aAt k))] 196)=w2 at *;replace kO:=kO.trans (KeepsOthers.below b2);replace kK:=kK.trans (Keeps.of_below b2 (fun j hj=>by have:=c6.lt;have:=hb1.size;omega));have hb2:=hb1.trans (b2.mono hb1.size);replace c1:=c1.below b2 c1.lt;replace c2:=c2.below b2 c2.lt;replace c3:=c3.below b2 c3.lt;replace c4:=c4.below b2 c4.lt;replace c5:=c5.below b2 c5.lt;replace c6:=c6.below b2 c6.lt;replace d1:=d1.below b2 d1.lt;replace d2:=d2.below b2 d2.lt;clear b2 hb1;generalize w1.heap.size=s2 at *;have KS:Hid (∀ w',Below w2.heap.size w2 w'→_):=aab (fun w' h=>V8 (c2.below h c2.lt).one_.1 (d1.below h d1.lt).two.1 (d1.below h d1.lt).two.2 (d2.below h d2.lt).two.1 (d2.below h d2.lt).two.2);refine fD (f:=16) (k:=5) KS [2,1,2,1,2,1,2,1,2,1,0,0,0,0,1,0,0] ?_;simp only [ku,jf];refine aT ?_;refine aU ?_;refine aT ?_;refine aU ?_;refine aT ?_;refine aU ?_;refine aT ?_;refine aU ?_;refine aT ?_
   iterate 2 refine aU ?_
   refine dK ?_
   iterate 5 (refine dn (fun K hK=>?_);go_simp;(first | (go_at_call 137;(with_reducible refine (nO (X.bAt k) (aJ (aJ (X.aAt k) s) (-1)) _).mono ?_);rintro e w' ⟨rfl,rfl⟩) | (go_at_call 138;(with_reducible refine (jL (aJ (X.aAt k) s) (-1) _).mono ?_);rintro e w9 ⟨rfl,b9⟩;have B1:Below w2.heap.size w2 w9:=ah (by repeat (first | exact aj _ | refine bAl ?_ _ | refine bDr ?_)) b9) | skip);refine lS hK KS ?_;clear hK K)
   refine dA ?_;clear KS;have B3:=bAl B1 (.cells #[.int .i64 (X.bAt k),.int .i64 (aJ (aJ (X.aAt k) s) (-1))] 3);generalize w9.alloc (.cells #[.int .i64 (X.bAt k),.int .i64 (aJ (aJ (X.aAt k) s) (-1))] 3)=w3 at *;clear B1;replace kO:=kO.trans (KeepsOthers.below B3);replace kK:=kK.trans (Keeps.of_below B3 (fun j hj=>by have:=c6.lt;have:=hb2.size;omega));have hb3:=hb2.trans (B3.mono hb2.size);replace c1:=c1.below B3 c1.lt;replace c2:=c2.below B3 c2.lt;replace c3:=c3.below B3 c3.lt;replace c4:=c4.below B3 c4.lt;replace c5:=c5.below B3 c5.lt;replace c6:=c6.below B3 c6.lt;replace d1:=d1.below B3 d1.lt;replace d2:=d2.below B3 d2.lt;replace D3:=D3.below B3 D3.lt;clear B3 hb2;obtain ⟨u0,hu0⟩:∃ u,(st1.flatMap Ltr.cl).toArray[i*6+k.val*2]?=some u:=⟨_,abd (by rw [hs1];omega)⟩
   obtain ⟨u1,hu1⟩:∃ u,(st1.flatMap Ltr.cl).toArray[i*6+k.val*2+1]?=some u:=⟨_,abd (by rw [hs1];omega)⟩
   have y0:=(c4.cell _).trans hu0;have y1:=(c4.cell _).trans hu1;have z0:=c4.frozen (i*6+k.val*2);have z1:=c4.frozen (i*6+k.val*2+1);have e4:=(c4.set_ (i*6+k.val*2) (.int .i64 (X.aAt k))).set_ (i*6+k.val*2+1) (.int .i64 (iF [X.bAt k,aJ (aJ (X.aAt k) s) (-1)]));rw [←Hz1.out] at e4;clear hu0 hu1;go_wp2_with fail;refine NoOut.normal ?_;replace kO:=kO.trans ((KeepsOthers.setCell _ ⟨g1,i*6+k.val*2,none⟩ (.int .i64 (X.aAt k))).trans (KeepsOthers.setCell _ ⟨g1,i*6+k.val*2+1,none⟩ (.int .i64 (iF [X.bAt k,aJ (aJ (X.aAt k) s) (-1)]))));replace kK:=(kK.setCell (p:=⟨g1,i*6+k.val*2,none⟩) (by show ¬(g1<W.heap.size∨g1=bp);omega) (.int .i64 (X.aAt k))).setCell (p:=⟨g1,i*6+k.val*2+1,none⟩) (by show ¬(g1<W.heap.size∨g1=bp);omega) (.int .i64 (iF [X.bAt k,aJ (aJ (X.aAt k) s) (-1)]));have hb4:=zQ7 (zQ7 hb3 (p:=⟨g1,i*6+k.val*2,none⟩) (by show W.heap.size≤g1;omega) (.int .i64 (X.aAt k))) (p:=⟨g1,i*6+k.val*2+1,none⟩) (by show W.heap.size≤g1;omega) (.int .i64 (iF [X.bAt k,aJ (aJ (X.aAt k) s) (-1)]));replace c1:=(c1.far (p:=⟨g1,i*6+k.val*2,none⟩) (by show W.heap.size≠g1;omega) (.int .i64 (X.aAt k))).far (p:=⟨g1,i*6+k.val*2+1,none⟩) (by show W.heap.size≠g1;omega) (.int .i64 (iF [X.bAt k,aJ (aJ (X.aAt k) s) (-1)]));replace c2:=(c2.far (p:=⟨g1,i*6+k.val*2,none⟩) (by show W.heap.size+1≠g1;omega) (.int .i64 (X.aAt k))).far (p:=⟨g1,i*6+k.val*2+1,none⟩) (by show W.heap.size+1≠g1;omega) (.int .i64 (iF [X.bAt k,aJ (aJ (X.aAt k) s) (-1)]));replace c3:=(c3.far (p:=⟨g1,i*6+k.val*2,none⟩) (by show W.heap.size+1+1≠g1;omega) (.int .i64 (X.aAt k))).far (p:=⟨g1,i*6+k.val*2+1,none⟩) (by show W.heap.size+1+1≠g1;omega) (.int .i64 (iF [X.bAt k,aJ (aJ (X.aAt k) s) (-1)]))
   replace c5:=(c5.far (p:=⟨g1,i*6+k.val*2,none⟩) (by show g2≠g1;omega) (.int .i64 (X.aAt k))).far (p:=⟨g1,i*6+k.val*2+1,none⟩) (by show g2≠g1;omega) (.int .i64 (iF [X.bAt k,aJ (aJ (X.aAt k) s) (-1)]));replace c6:=(c6.far (p:=⟨g1,i*6+k.val*2,none⟩) (by show bp≠g1;omega) (.int .i64 (X.aAt k))).far (p:=⟨g1,i*6+k.val*2+1,none⟩) (by show bp≠g1;omega) (.int .i64 (iF [X.bAt k,aJ (aJ (X.aAt k) s) (-1)]));replace d1:=(d1.far (p:=⟨g1,i*6+k.val*2,none⟩) (by show s0≠g1;omega) (.int .i64 (X.aAt k))).far (p:=⟨g1,i*6+k.val*2+1,none⟩) (by show s0≠g1;omega) (.int .i64 (iF [X.bAt k,aJ (aJ (X.aAt k) s) (-1)]));replace d2:=(d2.far (p:=⟨g1,i*6+k.val*2,none⟩) (by show s0+1≠g1;omega) (.int .i64 (X.aAt k))).far (p:=⟨g1,i*6+k.val*2+1,none⟩) (by show s0+1≠g1;omega) (.int .i64 (iF [X.bAt k,aJ (aJ (X.aAt k) s) (-1)]));replace D3:=(D3.far (p:=⟨g1,i*6+k.val*2,none⟩) (by show s2≠g1;omega) (.int .i64 (X.aAt k))).far (p:=⟨g1,i*6+k.val*2+1,none⟩) (by show s2≠g1;omega) (.int .i64 (iF [X.bAt k,aJ (aJ (X.aAt k) s) (-1)]));clear y0 y1 z0 z1 c4;generalize (w3.setCell ⟨g1,i*6+k.val*2,none⟩ (.int .i64 (X.aAt k))).setCell ⟨g1,i*6+k.val*2+1,none⟩ (.int .i64 (iF [X.bAt k,aJ (aJ (X.aAt k) s) (-1)]))=w4 at *;have KS:Hid (∀ w',Below w4.heap.size w4 w'→_):=aab (fun w' h=>V8 (c3.below h c3.lt).one_.1 (d1.below h d1.lt).two.1 (d1.below h d1.lt).two.2 (D3.below h D3.lt).two.1 (D3.below h D3.lt).two.2)
   gi_wp2_with fail
   refine fD (f:=8) (k:=0) KS [2,1,2,1,2,2,1,1,0] ?_;simp only [ku,jf];refine aT ?_;refine aU ?_;refine aT ?_;refine aU ?_
   iterate 2 refine aT ?_
   iterate 2 refine aU ?_
   refine dK ?_
   iterate 0 (refine dn (fun K hK=>?_);go_simp;(first | (fail) | skip);refine lS hK KS ?_;clear hK K)
   refine dA ?_;clear KS;replace c1:=Blk.dr c1;replace c2:=Blk.dr c2;replace c3:=Blk.dr c3;replace c5:=Blk.dr c5;replace c6:=Blk.dr c6;replace e4:=Blk.dr e4;replace hb4:=bDr hb4;replace kO:=kO.trans (KeepsOthers.drew _);replace kK:Keeps (fun k=>k<W.heap.size∨k=bp) Wc w4.drew:=⟨kK.size,kK.same⟩
   generalize w4.drew=w5 at *;obtain ⟨u0,hu0⟩:∃ u,(st2.flatMap Ltr.cl).toArray[i*6+k.val*2]?=some u:=⟨_,abd (by rw [hs2];omega)⟩
   obtain ⟨u1,hu1⟩:∃ u,(st2.flatMap Ltr.cl).toArray[i*6+k.val*2+1]?=some u:=⟨_,abd (by rw [hs2];omega)⟩
   have y0:=(c5.cell _).trans hu0;have y1:=(c5.cell _).trans hu1;have z0:=c5.frozen (i*6+k.val*2);have z1:=c5.frozen (i*6+k.val*2+1);have e5:=(c5.set_ (i*6+k.val*2) (.int .i64 (iT s (X.aAt k)))).set_ (i*6+k.val*2+1) (.int .i64 (kM s (X.aAt k)));rw [←Hz2.out] at e5;clear hu0 hu1;go_wp2_with fail;refine NoOut.normal ?_;replace kO:=kO.trans ((KeepsOthers.setCell _ ⟨g2,i*6+k.val*2,none⟩ (.int .i64 (iT s (X.aAt k)))).trans (KeepsOthers.setCell _ ⟨g2,i*6+k.val*2+1,none⟩ (.int .i64 (kM s (X.aAt k)))));replace kK:=(kK.setCell (p:=⟨g2,i*6+k.val*2,none⟩) (by show ¬(g2<W.heap.size∨g2=bp);omega) (.int .i64 (iT s (X.aAt k)))).setCell (p:=⟨g2,i*6+k.val*2+1,none⟩) (by show ¬(g2<W.heap.size∨g2=bp);omega) (.int .i64 (kM s (X.aAt k)));have hb5:=zQ7 (zQ7 hb4 (p:=⟨g2,i*6+k.val*2,none⟩) (by show W.heap.size≤g2;omega) (.int .i64 (iT s (X.aAt k)))) (p:=⟨g2,i*6+k.val*2+1,none⟩) (by show W.heap.size≤g2;omega) (.int .i64 (kM s (X.aAt k)));replace c1:=(c1.far (p:=⟨g2,i*6+k.val*2,none⟩) (by show W.heap.size≠g2;omega) (.int .i64 (iT s (X.aAt k)))).far (p:=⟨g2,i*6+k.val*2+1,none⟩) (by show W.heap.size≠g2;omega) (.int .i64 (kM s (X.aAt k)));replace c2:=(c2.far (p:=⟨g2,i*6+k.val*2,none⟩) (by show W.heap.size+1≠g2;omega) (.int .i64 (iT s (X.aAt k)))).far (p:=⟨g2,i*6+k.val*2+1,none⟩) (by show W.heap.size+1≠g2;omega) (.int .i64 (kM s (X.aAt k)));replace c3:=(c3.far (p:=⟨g2,i*6+k.val*2,none⟩) (by show W.heap.size+1+1≠g2;omega) (.int .i64 (iT s (X.aAt k)))).far (p:=⟨g2,i*6+k.val*2+1,none⟩) (by show W.heap.size+1+1≠g2;omega) (.int .i64 (kM s (X.aAt k)))
   replace c6:=(c6.far (p:=⟨g2,i*6+k.val*2,none⟩) (by show bp≠g2;omega) (.int .i64 (iT s (X.aAt k)))).far (p:=⟨g2,i*6+k.val*2+1,none⟩) (by show bp≠g2;omega) (.int .i64 (kM s (X.aAt k)));replace e4:=(e4.far (p:=⟨g2,i*6+k.val*2,none⟩) (by show g1≠g2;omega) (.int .i64 (iT s (X.aAt k)))).far (p:=⟨g2,i*6+k.val*2+1,none⟩) (by show g1≠g2;omega) (.int .i64 (kM s (X.aAt k)));have f1:=hf1.out;have f2:=hf2.out;clear y0 y1 z0 z1
   gi_wp2_with fail
   refine ⟨kO,kK,hb5,⟨c1,c2,c3,?_,?_,c6,trivial⟩,trivial⟩
   ·show Blk _ _ _ (((pre++[(⟨i,k,hi⟩:Pl l)]).foldl (wrZ (iE s)) (List.replicate l.length aB)).flatMap Ltr.cl).toArray
    rw [f1];exact e4
   ·show Blk _ _ _ (((pre++[(⟨i,k,hi⟩:Pl l)]).foldl (wrZ (rX s)) (List.replicate l.length aB)).flatMap Ltr.cl).toArray
    rw [f2];exact e5
  case done =>
   rintro D xs Wc hD hall hbc ⟨c1,c2,c3,c4,c5,c6,_⟩ _ hd;dsimp only at c2 c3 c4 c5;rw [MQ (iE s) hall] at c4;rw [MQ (rX s) hall] at c5;clear BS BX BP BX2 BP2 BQ h7 c1 c6;obtain ⟨x0,z0⟩:=c2.one_;obtain ⟨x1,z1⟩:=c3.one_;have KS:Hid (∀ w',Below Wc.heap.size Wc w'→_):=aab (fun w' h=>And.intro (c2.below h c2.lt).one_.1 (c3.below h c3.lt).one_.1)
   have KS2:Hid (∀ w':World,Below Wc.heap.size Wc w'→(w'.setCell ⟨W.heap.size+1,0,none⟩ (.slice (some ⟨g1,0,none⟩) l.length l.length)).cell? ⟨W.heap.size+1,0,none⟩=some (.slice (some ⟨g1,0,none⟩) l.length l.length)∧(w'.setCell ⟨W.heap.size+1,0,none⟩ (.slice (some ⟨g1,0,none⟩) l.length l.length)).cell? ⟨W.heap.size+1+1,0,none⟩=some (.slice (some ⟨g2,0,none⟩) l.length l.length)):=fun w' h =>
    ⟨((c2.below h c2.lt).set1 _).one_.1,((c3.below h c3.lt).far (by show W.heap.size+1+1≠W.heap.size+1;omega) _).one_.1⟩
   go_upto_region 14 with fail;refine kX (fun w'=>w'.cell? ⟨W.heap.size+1,0,none⟩=some (.slice (some ⟨g1,0,none⟩) l.length l.length)∧w'.cell? ⟨W.heap.size+1+1,0,none⟩=some (.slice (some ⟨g2,0,none⟩) l.length l.length)) 3 1 [2,2,0,0,0] (by kernel_rfl) (by kernel_rfl) (by first | (refine KS.out _ ?_;(repeat (first | exact aj _ | refine bAl ?_ _ | refine bDr ?_));done) | (refine KS2.out _ ?_;(repeat (first | exact aj _ | refine bAl ?_ _ | refine bDr ?_));done)) ?_;simp only [ku,jf]
   iterate 2 refine aT ?_
   refine dK ?_
   iterate 1 (refine dn (fun K hK=>?_);go_simp;(first | (fail) | skip);refine hK.out _ _ (by first | (refine KS.out _ ?_;(repeat (first | exact aj _ | refine bAl ?_ _ | refine bDr ?_));done) | (refine KS2.out _ ?_;(repeat (first | exact aj _ | refine bAl ?_ _ | refine bDr ?_));done)) (fun hHeld=>?_);clear hHeld hK K;try simp only [Act.put,aaf,aai,aah])
   refine dA ?_;have q2:Blk (Wc.setCell ⟨W.heap.size+1,0,none⟩ (.slice (some ⟨g1,0,none⟩) l.length l.length)).drew (W.heap.size+1) 34 #[.slice (some ⟨g1,0,none⟩) l.length l.length]:=Blk.dr (c2.set1 _);have q3:Blk (Wc.setCell ⟨W.heap.size+1,0,none⟩ (.slice (some ⟨g1,0,none⟩) l.length l.length)).drew (W.heap.size+1+1) 45 #[.slice (some ⟨g2,0,none⟩) l.length l.length]:=Blk.dr (c3.far (by show W.heap.size+1+1≠W.heap.size+1;omega) _);have q4:Blk (Wc.setCell ⟨W.heap.size+1,0,none⟩ (.slice (some ⟨g1,0,none⟩) l.length l.length)).drew g1 63 _:=Blk.dr (c4.far (by show g1≠W.heap.size+1;omega) _);have q5:Blk (Wc.setCell ⟨W.heap.size+1,0,none⟩ (.slice (some ⟨g1,0,none⟩) l.length l.length)).drew g2 199 _:=Blk.dr (c5.far (by show g2≠W.heap.size+1;omega) _)
   have hdd:(Wc.setCell ⟨W.heap.size+1,0,none⟩ (.slice (some ⟨g1,0,none⟩) l.length l.length)).drew.heap[D]?=some (.deferred (some [])):=by
    show (Wc.setCell ⟨W.heap.size+1,0,none⟩ (.slice (some ⟨g1,0,none⟩) l.length l.length)).heap[D]?=_;rw [Below.heap_setCell _ _ _ _ (fun e=>tN c2 hd rfl e.symm)];exact hd
   have hb8:Below W.heap.size W (Wc.setCell ⟨W.heap.size+1,0,none⟩ (.slice (some ⟨g1,0,none⟩) l.length l.length)).drew:=bDr (zQ7 hbc (by show W.heap.size≤W.heap.size+1;omega) _);clear c2 c3 c4 c5 hd x0 x1 z0 z1 KS KS2 hbc;generalize (Wc.setCell ⟨W.heap.size+1,0,none⟩ (.slice (some ⟨g1,0,none⟩) l.length l.length)).drew=w8 at *;obtain ⟨x1,z1⟩:=q3.one_
   have hd9:(w8.setCell ⟨W.heap.size+1+1,0,none⟩ (.slice (some ⟨g2,0,none⟩) l.length l.length)).heap[D]?=some (.deferred (some [])):=by
    rw [Below.heap_setCell _ _ _ _ (fun e=>tN q3 hdd rfl e.symm)];exact hdd
   have r2:=(q2.far (p:=⟨W.heap.size+1+1,0,none⟩) (by show W.heap.size+1≠W.heap.size+1+1;omega) (.slice (some ⟨g2,0,none⟩) l.length l.length)).put (o' := .deferred none) hd9 rfl;have r3:=(q3.set1 (.slice (some ⟨g2,0,none⟩) l.length l.length)).put (o' := .deferred none) hd9 rfl;have r4:=(q4.far (p:=⟨W.heap.size+1+1,0,none⟩) (by show g1≠W.heap.size+1+1;omega) (.slice (some ⟨g2,0,none⟩) l.length l.length)).put (o' := .deferred none) hd9 rfl;have r5:=(q5.far (p:=⟨W.heap.size+1+1,0,none⟩) (by show g2≠W.heap.size+1+1;omega) (.slice (some ⟨g2,0,none⟩) l.length l.length)).put (o' := .deferred none) hd9 rfl;go_wp2_with fail;refine NoPanic.normal ?_;go_wp2_with fail;refine cZ (by simp) hd9 ?_;have e2:=r2.one_.1;have e3:=r3.one_.1;refine ⟨.tuple #[.slice (some ⟨g1,0,none⟩) l.length l.length,.slice (some ⟨g2,0,none⟩) l.length l.length,.int .i64 0],by simp [results,results54,go_sem,e2,e3],?_⟩;exact ⟨uQ (zQ7 hb8 (by show W.heap.size≤W.heap.size+1+1;omega) _) hD _,fun h=>absurd He.out h,fun _=>⟨g1,g2,rfl,by omega,by omega,r4,r5⟩⟩
end
section
open Go.RowKit
def mp (a b:Int):Int:=a*b % 2147483579
instance mp_comm:Std.Commutative mp:=⟨fun a b=>by unfold mp;rw [Int.mul_comm]⟩
instance mp_assoc:Std.Associative mp:=⟨fun a b c=>by
 unfold mp;rw [Int.mul_emod (a*b % 2147483579),abz _ (Int.dvd_refl _),←Int.mul_emod,Int.mul_emod a (b*c % 2147483579),abz _ (Int.dvd_refl _),←Int.mul_emod,Int.mul_assoc]⟩
theorem mg {a b:Int} (ha:aA a=true) (hb:aA b=true):aA (mp a b)=true:=OO ha hb
theorem Fe {a:Int} (ha:aA a=true):mp 1 a=a:=by unfold mp;rw [Int.one_mul,QQ ha]
theorem Ff {a:Int} (ha:aA a=true):mp a 1=a:=by unfold mp;rw [Int.mul_one,QQ ha]
theorem H7 {a:Int} (h:aA a=true) (m n:Int):aJ a (m+n)=mp (aJ a m) (aJ a n):=G9 h m n
theorem Fg {a:Int} (h:aA a=true) (n:Int):mp (aJ a n) (aJ a (-n))=1:=by
 rw [←H7 h,show n + -n=0 by omega,D6 h]
theorem tY {a b:Int} (ha:aA a=true) (hb:aA b=true):iF [a,b]=mp a b:=QR ha hb
theorem H8 {a:Int} (h:aA a=true):aJ (aJ a (-1)) (-1)=a:=by
 rw [nR h,show (-1:Int) * -1=1 by omega,Hf h]
theorem J4 {a b:Int} (ha:aA a=true) (hb:aA b=true) (n:Int):aJ (mp a b) n=mp (aJ a n) (aJ b n):=JQ ha hb n
theorem rY {g:Int} (h:aA g=true) (n E s:Int):iF [aJ g ((n+E*s) % 1073741789),aJ (aJ g s) (-E)]=aJ g n:=by
 rw [tY (aX h _) (aX (aX h _) _),OQ (m:=(n+E*s) % 1073741789) (n:=n+E*s) (abz _ (Int.dvd_refl _)),H7 h,nR h];have e:s * -E = -(E*s):=by rw [Int.mul_neg,Int.mul_comm]
 rw [e];have h1:=Fg h (E*s)
 have:mp (mp (aJ g n) (aJ g (E*s))) (aJ g (-(E*s)))=mp (aJ g n) (mp (aJ g (E*s)) (aJ g (-(E*s)))):=by ac_rfl
 rw [this,h1,Ff (aX h _)]
theorem Q5 {b A:Int} (hb:aA b=true) (hA:aA A=true):iF [b,aJ (iF [b,aJ A (-1)]) (-1)]=A:=by
 have h1:=aX hA (-1);have h2:=aX hb (-1);rw [tY hb h1,tY hb (aX (mg hb h1) _),J4 hb h1,H8 hA]
 have:mp b (mp (aJ b (-1)) A)=mp (mp b (aJ b (-1))) A:=by ac_rfl
 have h3:mp b (aJ b (-1))=1:=Hg hb;rw [this,h3,Fe hA]
theorem zV {n:Int} (h:0≤n∧n<1073741789):lZ n=true:=decide_eq_true h
theorem wI {s:Int} (h:iO s=true):pK s=aJ 4 s:=if_pos h
theorem O5 {s:Int} (hs:iO s=true) {x y p:Ltr} (k:Fin 3) (ha:aA (x.aAt k)=true) (hb:aA (x.bAt k)=true)
  (hy:y.aAt k=(iE s (x.aAt k) (x.bAt k)).1∧y.bAt k=(iE s (x.aAt k) (x.bAt k)).2) (hp:p.aAt k=(rX s (x.aAt k) (x.bAt k)).1∧p.bAt k=(rX s (x.aAt k) (x.bAt k)).2):rQ (pK s) x y p k=true:=by
 have hA:=aX ha s;have hD:=Q5 hb hA;unfold rQ;rw [hy.1,hy.2,hp.1,hp.2];unfold iE rX;dsimp only;rw [hD,wI hs];simp only [decide_true,aaM];have e1:Ht (aJ 4 s) (x.aAt k) (aJ (x.aAt k) s)=true:=by unfold Ht;rw [aX aV,ha,hA];rfl
 have e2:E5 (iT s (x.aAt k)) (kM s (x.aAt k))=true:=by
  unfold E5;rw [zV (D9 s _),zV (by unfold kM;exact ⟨Int.emod_nonneg _ (by omega),Int.emod_lt_of_pos _ (by omega)⟩)];rfl
 have e3:OY (aJ 4 s) (x.aAt k) (aJ (x.aAt k) s) (iT s (x.aAt k)) (kM s (x.aAt k))=true:=by
  unfold OY;refine decide_eq_true ?_;unfold kM;show iT s (x.aAt k)=(yV (aJ 4 s) (x.aAt k) (aJ (x.aAt k) s) (iF [aJ 4 _,aJ (aJ 4 s) (-iT s (x.aAt k))]) (iF [aJ (x.aAt k) _,aJ (aJ (x.aAt k) s) (-iT s (x.aAt k))]):Nat);rw [rY aV,rY ha];rfl
 unfold qF;rw [e1,e2,e3];rfl
theorem Ec (x:Ltr) (k:Fin 3):x.goodAt k=(aA (x.aAt k)&&aA (x.bAt k)):=by
 match k with
 | 0=>rfl
 | 1=>rfl
 | 2=>rfl
theorem Bh {s:Int} {x:Ltr} (h:x.good=true):(x.by (iE s)).good=true:=by
 refine Ltr.good_of _ (fun k=>?_);obtain ⟨ha,hb⟩:=kG h k;obtain ⟨e1,e2⟩:=Ltr.by_at (iE s) x k;rw [Ec,e1,e2];have hA:=aX ha s;unfold iE;dsimp only;rw [tY hb (aX hA _),ha,mg hb (aX hA _)];rfl
theorem wJ {l:List Ltr} : jv l=0↔l.length≤64∧l.all Ltr.good=true:=by
 unfold jv;constructor
 ·intro h
  split at h
  ·exact absurd h (by omega)
  ·split at h
   ·rename_i h1 h2;exact ⟨by omega,h2⟩
   ·exact absurd h (by omega)
 ·rintro ⟨h1,h2⟩
  rw [if_neg (by omega),if_pos h2]
theorem J5 {s:Int} {l:List Ltr} (h:jv l=0):jv (bu s l)=0:=by
 obtain ⟨h1,h2⟩:=wJ.1 h;refine wJ.2 ⟨by unfold bu;rw [aaQ];exact h1,?_⟩;rw [aau] at h2 ⊢;intro y hy;unfold bu at hy;obtain ⟨x,hx,rfl⟩:=aaK.1 hy;exact Bh (h2 x hx)
theorem Ed {s:Int} (h:iO s=true):aA (pK s)=true:=by rw [wI h];exact aX aV s
theorem UK {s:Int} (hs:iO s=true) {l:List Ltr} (hl:jv l=0):df (pK s) l (bu s l) (nV s l)=true:=by
 obtain ⟨h1,h2⟩:=wJ.1 hl;rw [aau] at h2;unfold df;rw [Ed hs,decide_eq_true (show l.length=(bu s l).length by unfold bu;simp),decide_eq_true (show l.length=(nV s l).length by unfold nV;simp),decide_eq_true hl,decide_eq_true (J5 hl)];simp only [aaM];refine uT (by unfold bu;simp) (by unfold nV;simp) (fun z=>?_);obtain ⟨ha,hb⟩:=kG (h2 z.ltr (List.getElem_mem z.hi)) z.k
 have gx:(bu s l).getD z.i aB=z.ltr.by (iE s):=by
  unfold bu;rw [aaU,aaD,aac z.hi];rfl
 have gp:(nV s l).getD z.i aB=z.ltr.by (rX s):=by
  unfold nV;rw [aaU,aaD,aac z.hi];rfl
 unfold Bf;rw [gx,gp];exact O5 hs z.k ha hb (Ltr.by_at _ _ _) (Ltr.by_at _ _ _)
theorem O6 {n:Int} (h1:1≤n) (h2:n<2147483579) (h:¬aA n=true):aA (2147483579 - n)=true:=by
 obtain ⟨m,rfl⟩:=abB (show 0≤n by omega);have hm0:0<m:=by omega
 have hm1:m<Pn:=by show m<2147483579;omega
 have hne:eu m Qn≠1:=fun e=>h (G8 ⟨hm0,hm1,e⟩);have hc:=rf hm0 hm1;have hp:∀ a,0<a→a<2*Qn+1→Nat.Coprime (2*Qn+1) a:=fun a h2 h3=>rf h2 h3;have hg:=DW (h:=Qn) (a:=m) (by decide) hp hc
 have hm:eu m Qn=2147483578:=by
  unfold eu at hne ⊢;rw [VM] at hne ⊢;rw [hg] at hne ⊢
  split at hne
  ·exact absurd rfl hne
  ·rename_i hh;rw [if_neg hh];rfl
 have hmo:eu 2147483578 Qn=2147483578:=by rw [xU (by decide)];decide +kernel
 have e:(m*2147483578) % Pn=Pn - m:=by
  have:m*2147483578=(Pn - m)+Pn * (m - 1):=by
   show m*2147483578=(2147483579 - m)+2147483579 * (m - 1)
   have:m<2147483579:=hm1
   omega
  rw [this,Nat.add_mul_mod_self_left,aaR (by omega)]
 have ht:=uP m 2147483578 Qn;rw [e,hm,hmo] at ht;have hv:vN (Pn - m):=⟨by omega,by omega,ht.trans (by decide)⟩
 have:=G8 hv
 have hcast:(((Pn - m:Nat)):Int)=2147483579 - (m:Int):=by
  have:m<2147483579:=hm1
  show ((2147483579 - m:Nat):Int)=_;omega
 rw [hcast] at this;exact this
theorem zW {n:Int} (h:jR n=true):aA (elemV n)=true∧gW (elemV n)=n:=by
 have hr:1≤n∧n≤1073741789:=by
  unfold jR yT at h
  split at h
  ·assumption
  ·simp at h
 unfold elemV;rw [if_pos hr];by_cases hv:aA n=true
 ·rw [if_pos hv]
  refine ⟨hv,?_⟩;unfold gW;rw [if_pos hv,if_pos (by omega)]
 ·rw [if_neg hv]
  have hv':=O6 hr.1 (by omega) hv;refine ⟨hv',?_⟩;unfold gW;rw [if_pos hv',if_neg (by omega)];omega
def Enc (R:Int) (e:Fin 3→Int) (x:Ltr):Prop:=∃ r:Fin 3→Int,∀ k,x.aAt k=aJ 4 (r k)∧x.bAt k=mp (e k) (aJ R (r k))
def Wd.at_ (w:Wd) (k:Fin 3):Int:=match k with | 0=>w.x | 1=>w.y | 2=>w.z
def Wd.el (w:Wd) (k:Fin 3):Int:=elemV (w.at_ k)
def rAt (r0 r1 r2:Int) (k:Fin 3):Int:=match k with | 0=>r0 | 1=>r1 | 2=>r2
theorem wK (a b:Int):fU [a,b]=mp a b:=JR a b
theorem mi (key r0 r1 r2:Int) (x:Ltr) (k:Fin 3):(moreL key r0 r1 r2 x).aAt k=mp (x.aAt k) (aJ 4 (rAt r0 r1 r2 k))∧(moreL key r0 r1 r2 x).bAt k=mp (x.bAt k) (aJ key (rAt r0 r1 r2 k)):=by
 match k with
 | 0=>exact ⟨wK _ _,wK _ _⟩
 | 1=>exact ⟨wK _ _,wK _ _⟩
 | 2=>exact ⟨wK _ _,wK _ _⟩
theorem lJ (n:Int) (x:Ltr) (k:Fin 3):(stripL n x).aAt k=x.aAt k∧(stripL n x).bAt k=mp (x.bAt k) (aJ (x.aAt k) (-n)):=by
 match k with
 | 0=>exact ⟨rfl,wK _ _⟩
 | 1=>exact ⟨rfl,wK _ _⟩
 | 2=>exact ⟨rfl,wK _ _⟩
theorem uU {x:Ltr} (h:∀ k,aA (x.aAt k)=true∧aA (x.bAt k)=true):x.good=true :=
 Ltr.good_of _ (fun k=>by rw [Ec,(h k).1,(h k).2];rfl)
theorem iY {n:Int} {x:Ltr} (h:x.good=true):(stripL n x).good=true:=uU (fun k=>by
 obtain ⟨ha,hb⟩:=kG h k;rw [(lJ n x k).1,(lJ n x k).2];exact ⟨ha,mg hb (aX ha _)⟩)
theorem nC {key r0 r1 r2:Int} {x:Ltr} (hk:aA key=true) (h:x.good=true):(moreL key r0 r1 r2 x).good=true:=uU (fun k=>by
 obtain ⟨ha,hb⟩:=kG h k;rw [(mi key r0 r1 r2 x k).1,(mi key r0 r1 r2 x k).2];exact ⟨mg ha (aX aV _),mg hb (aX hk _)⟩)
theorem wM (w:Wd) (k:Fin 3):(qP w.x w.y w.z).aAt k=1∧(qP w.x w.y w.z).bAt k=w.el k:=by
 match k with
 | 0=>exact ⟨rfl,rfl⟩
 | 1=>exact ⟨rfl,rfl⟩
 | 2=>exact ⟨rfl,rfl⟩
def Wd.ok (w:Wd):Prop:=∀ k,jR (w.at_ k)=true
theorem Q7 {w:Wd} : nU w.x w.y w.z=true↔w.ok:=by
 unfold nU Wd.ok;simp only [aal];constructor
 ·rintro ⟨⟨h0,h1⟩,h2⟩ k
  match k with
  | 0=>exact h0
  | 1=>exact h1
  | 2=>exact h2
 ·intro h;exact ⟨⟨h 0,h 1⟩,h 2⟩
theorem O7 {key r0 r1 r2:Int} {w:Wd} (hk:aA key=true) (hw:w.ok):(moreL key r0 r1 r2 (qP w.x w.y w.z)).good=true :=
 nC hk (uU (fun k=>by rw [(wM w k).1,(wM w k).2];exact ⟨nz,(zW (hw k)).1⟩))
theorem Q8 {key r0 r1 r2:Int} (w:Wd):Enc key w.el (moreL key r0 r1 r2 (qP w.x w.y w.z)):=⟨rAt r0 r1 r2,fun k=>by
 rw [(mi key r0 r1 r2 _ k).1,(mi key r0 r1 r2 _ k).2,(wM w k).1,(wM w k).2];exact ⟨Fe (aX aV _),rfl⟩⟩
theorem Ee {s R:Int} {e:Fin 3→Int} {x:Ltr} (hR:aA R=true) (he:∀ k,aA (e k)=true) (h:Enc (mp (aJ 4 s) R) e x):Enc R e (stripL s x):=by
 obtain ⟨r,hr⟩:=h;refine ⟨r,fun k=>?_⟩;rw [(lJ s x k).1,(lJ s x k).2,(hr k).1,(hr k).2,J4 (aX aV s) hR,nR aV,nR aV];refine ⟨rfl,?_⟩;have e1:r k * -s = -(s*r k):=by rw [Int.mul_neg,Int.mul_comm]
 rw [e1];have h1:=Fg aV (s*r k)
 have:mp (mp (e k) (mp (aJ 4 (s*r k)) (aJ R (r k)))) (aJ 4 (-(s*r k)))=mp (mp (aJ 4 (s*r k)) (aJ 4 (-(s*r k)))) (mp (e k) (aJ R (r k))):=by ac_rfl
 rw [this,h1,Fe (mg (he k) (aX hR _))]
theorem Q9 {w:Wd} {x:Ltr} (hw:w.ok) (hx:x.good=true) (h:Enc 1 w.el x):kY x=w:=by
 obtain ⟨r,hr⟩:=h
 have hb:∀ k,x.bAt k=w.el k:=fun k=>by
  rw [(hr k).2]
  have:aJ 1 (r k)=1:=by
   unfold aJ;rw [if_pos nz];show ((eu 1 (jY (r k)):Nat):Int)=1;rw [rq];rfl
  rw [this];exact Ff (zW (hw k)).1
 have hn:∀ k,gW (x.bAt k)=w.at_ k:=fun k=>by rw [hb k];exact (zW (hw k)).2
 unfold kY;rw [if_pos hx];have h0:=hn 0;have h1:=hn 1;have h2:=hn 2;cases w
 show (⟨gW x.b0,gW x.b1,gW x.b2⟩:Wd)=_;rw [show gW x.b0=_ from h0,show gW x.b1=_ from h1,show gW x.b2=_ from h2];rfl
end
def UL (s:Int) (x:Ltr) (k:Fin 3):Int:=mp (x.bAt k) (aJ (x.aAt k) (-s))
theorem H9 (s:Int) (x:Ltr) (k:Fin 3):(stripL s x).bAt k=UL s x k:=(lJ s x k).2
theorem Ef {s r0 r1 r2:Int} {x:Ltr} (hx:x.good=true) (k:Fin 3):UL s (moreL (aJ 4 s) r0 r1 r2 x) k=UL s x k:=by
 obtain ⟨ha,hb⟩:=kG hx k;unfold UL;rw [(mi (aJ 4 s) r0 r1 r2 x k).1,(mi (aJ 4 s) r0 r1 r2 x k).2];generalize rAt r0 r1 r2 k=r;rw [J4 ha (aX aV r),nR aV,nR aV];have e1:r * -s = -(s*r):=by rw [Int.mul_neg,Int.mul_comm]
 rw [e1];have h1:=Fg aV (s*r);have h2:mp (mp (x.bAt k) (aJ 4 (s*r))) (mp (aJ (x.aAt k) (-s)) (aJ 4 (-(s*r))))=mp (mp (aJ 4 (s*r)) (aJ 4 (-(s*r)))) (mp (x.bAt k) (aJ (x.aAt k) (-s))):=by ac_rfl
 rw [h2,h1,Fe (mg hb (aX ha _))]
theorem Rf {x y:Ltr} (hx:x.good=true) (hy:y.good=true) (h:∀ k,x.bAt k=y.bAt k):kY x=kY y:=by
 unfold kY;rw [if_pos hx,if_pos hy];have h0:x.b0=y.b0:=h 0;have h1:x.b1=y.b1:=h 1;have h2:x.b2=y.b2:=h 2;rw [h0,h1,h2]
theorem Ia {s r0 r1 r2 q0 q1 q2:Int} {x:Ltr} (hx:x.good=true):kY (stripL s (moreL (aJ 4 s) q0 q1 q2 (moreL (aJ 4 s) r0 r1 r2 x)))=kY (stripL s x):=by
 have hk:aA (aJ 4 s)=true:=aX aV s;have h1:=nC (r0:=r0) (r1:=r1) (r2:=r2) hk hx;exact Rf (iY (nC hk h1)) (iY hx) (fun k=>by rw [H9,H9,Ef h1,Ef hx])
section
open Go.RowKit
structure Opn where
 at_:Int
 r0:Int
 r1:Int
 r2:Int
 salt:List Nat
def Opn.cl (o:Opn):List Value:=[.int .i64 o.at_,.int .i64 o.r0,.int .i64 o.r1,.int .i64 o.r2]++ag o.salt
def Opn.its (o:Opn):List Nd:=[.int o.at_,.int o.r0,.int o.r1,.int o.r2,.dig o.salt]
def Opn.ok (o:Opn):Prop:=inI o.at_∧inI o.r0∧inI o.r1∧inI o.r2∧o.salt.length=32∧okB o.salt
theorem af {P:Program} {o:Oper} {a:Act} {ty:TypeId} {x:Operand} {q v:Value} {w:World} (ho:o.op = .load ty x) (hx:a.eval x=q) (h:(Instr.loadAt ty q).run P w = .ok v w):(execOp a.eval o).run P w = .ok (.value v) w:=by
 unfold execOp;rw [ho];simp only [Sem.run_bind,hx,h,Result.andThen_ok,Sem.run_pure]
abbrev Tri:=Int×Int×Int
def Tri.cl (t:Tri):List Value:=[.int .i64 t.1,.int .i64 t.2.1,.int .i64 t.2.2]
structure Trn where
 left:List Int
 right:List Int
 rl:List Tri
 rr:List Tri
 salts:List (List Nat×List Nat)
def Trn.fit (t:Trn) (n:Int):Bool :=
 decide ((t.left.length:Int)=n)&&decide ((t.right.length:Int)=n)&&decide ((t.rl.length:Int)=n)&&decide ((t.rr.length:Int)=n)&&decide ((t.salts.length:Int)=n)&&decide (n≤64)&&nS t.left&&nS t.right
def agT (key:Int) (x:Ltr) (r:Tri):Ltr:=gG key x r.1 r.2.1 r.2.2
def Trn.midAt (t:Trn) (key:Int) (inn:List Ltr) (j:Nat):Ltr:=agT key (inn.getD (t.left.getD j 0).toNat aB) (t.rl.getD j (0,0,0))
def Trn.outAt (t:Trn) (key:Int) (inn:List Ltr) (j:Nat):Ltr:=agT key (t.midAt key inn j) (t.rr.getD j (0,0,0))
def Trn.mid (t:Trn) (key:Int) (inn:List Ltr) (n:Nat):List Ltr:=(List.range n).map (t.midAt key inn)
def Trn.out (t:Trn) (key:Int) (inn:List Ltr) (n:Nat):List Ltr:=uS ((t.right.map Int.toNat).take n) ((List.range n).map (t.outAt key inn)) (List.replicate inn.length aB)
def Trn.opL (t:Trn) (j:Nat):Opn:=let r:=t.rl.getD j (0,0,0);⟨t.left.getD j 0,r.1,r.2.1,r.2.2,(t.salts.getD j ([],[])).1⟩
def Trn.opR (t:Trn) (j:Nat):Opn:=let r:=t.rr.getD j (0,0,0);⟨t.right.getD j 0,r.1,r.2.1,r.2.2,(t.salts.getD j ([],[])).2⟩
def Trn.half (t:Trn) (b:Int) (j:Nat):Opn:=if b=0 then t.opL j else t.opR j
def Trn.way (t:Trn):List Int:=uS (t.left.map Int.toNat) t.right (List.replicate t.left.length 0)
theorem Trn.out_length (t:Trn) (key:Int) (inn:List Ltr) (n:Nat):(t.out key inn n).length=inn.length:=by
 unfold Trn.out;rw [rH,List.length_replicate]
theorem Trn.fit_of {t:Trn} {n:Nat} (h:t.fit (n:Int)=true):(t.left.length=n∧t.right.length=n∧t.rl.length=n∧t.rr.length=n∧t.salts.length=n)∧n≤64∧nS t.left=true∧nS t.right=true:=by
 unfold Trn.fit at h;simp only [aal,decide_eq_true_eq] at h;obtain ⟨⟨⟨⟨⟨⟨⟨h1,h2⟩,h3⟩,h4⟩,h5⟩,h6⟩,h7⟩,h8⟩:=h;exact ⟨⟨by omega,by omega,by omega,by omega,by omega⟩,by omega,h7,h8⟩
theorem Trn.way_at {t:Trn} {n k:Nat} (h:t.fit (n:Int)=true) (hk:k<n):∃ j p:Nat,j<n∧p<n∧t.left[j]?=some (k:Int)∧t.right[j]?=some (p:Int)∧t.way[k]?=some (p:Int):=by
 obtain ⟨⟨h1,h2,_,_,_⟩,_,h7,h8⟩:=Trn.fit_of h;obtain ⟨ls,e1,n1,b1,l1⟩:=pV h7;obtain ⟨rs,e2,n2,b2,l2⟩:=pV h8;obtain ⟨j,hj⟩:=MM n1 (fun x hx=>by have:=b1 x hx;omega) (n:=n) (by omega) hk
 have hjn:j<n:=by
  have:=(aag.1 hj).1
  omega
 obtain ⟨p,hp⟩:∃ p,rs[j]?=some p:=⟨_,aac (by omega)⟩
 have hpn:p<n:=by
  have:=b2 p (aam hp)
  omega
 have hr:t.right[j]?=some (p:Int):=by rw [e2,aaD,hp];rfl
 refine ⟨j,p,hjn,hpn,by rw [e1,aaD,hj];rfl,hr,?_⟩
 have e3:t.left.map Int.toNat=ls:=by
  rw [e1,List.map_map];exact (List.map_congr_left fun x _=>by show ((x:Int)).toNat=x;omega).trans (List.map_id ls)
 unfold Trn.way;rw [e3];exact EY ls t.right _ j k (p:Int) n1 hj hr (by rw [List.length_replicate];omega)
theorem Trn.out_at {t:Trn} {key:Int} {inn:List Ltr} {j p:Nat} (h:t.fit (inn.length:Int)=true) (hj:j<inn.length) (hp:t.right[j]?=some (p:Int)):(t.out key inn inn.length)[p]?=some (t.outAt key inn j):=by
 obtain ⟨⟨h1,h2,_,_,_⟩,_,h7,h8⟩:=Trn.fit_of h;obtain ⟨rs,e2,n2,b2,l2⟩:=pV h8
 have e3:t.right.map Int.toNat=rs:=by
  rw [e2,List.map_map];exact (List.map_congr_left fun x _=>by show ((x:Int)).toNat=x;omega).trans (List.map_id rs)
 have hq:rs[j]?=some p:=by
  rw [e2,aaD] at hp;obtain ⟨x,hx,e⟩:=Option.map_eq_some_iff.1 hp
  have:x=p:=by omega
  rw [hx,this]
 have hpn:=b2 p (aam hq);unfold Trn.out;rw [e3,aaH (by omega)];refine EY rs _ _ j p _ n2 hq ?_ (by rw [List.length_replicate];omega);rw [aaD,List.getElem?_range (by omega)];rfl
theorem Trn.reads {t:Trn} {s:Int} {inn:List Ltr} {k:Nat} {x:Ltr} (h:t.fit (inn.length:Int)=true) (hx:inn[k]?=some x) (hg:x.good=true):∃ (p:Nat) (y:Ltr),t.way[k]?=some (p:Int)∧p<inn.length∧(t.out (aJ 4 s) inn inn.length)[p]?=some y∧y.good=true∧kY (stripL s y)=kY (stripL s x):=by
 have hk:k<inn.length:=(aag.1 hx).1;obtain ⟨j,p,hj,hp,h1,h2,h3⟩:=Trn.way_at h hk;have hv:aA (aJ 4 s)=true:=aX aV s
 have e1:t.midAt (aJ 4 s) inn j=agT (aJ 4 s) x (t.rl.getD j (0,0,0)):=by
  unfold Trn.midAt;have hl:t.left.getD j 0=(k:Int):=by rw [aaU,h1];rfl
  have hi:inn.getD k aB=x:=by rw [aaU,hx];rfl
  rw [hl,show ((k:Int)).toNat=k by omega,hi]
 refine ⟨p,_,h3,hp,Trn.out_at h hj h2,?_⟩;unfold Trn.outAt;rw [e1];generalize t.rl.getD j (0,0,0)=r;generalize t.rr.getD j (0,0,0)=q;have g1:=nC (r0:=r.1) (r1:=r.2.1) (r2:=r.2.2) hv hg;have e2:agT (aJ 4 s) x r=moreL (aJ 4 s) r.1 r.2.1 r.2.2 x:=by unfold agT gG;rw [if_pos hv,if_pos hg]
 have e3:agT (aJ 4 s) (moreL (aJ 4 s) r.1 r.2.1 r.2.2 x) q=moreL (aJ 4 s) q.1 q.2.1 q.2.2 (moreL (aJ 4 s) r.1 r.2.1 r.2.2 x):=by unfold agT gG;rw [if_pos hv,if_pos g1]
 rw [e2,e3];exact ⟨nC hv g1,Ia hg⟩
def fE:ByteArray:=⟨#[108,101,102,116]⟩
def dB:ByteArray:=⟨#[114,105,103,104,116]⟩
def nX (tag:ByteArray) (o:Opn):List Nat:=dP (sb tag) (bZ (o.its.map Nd.it))
theorem rZ (tag:ByteArray) (o:Opn):(nX tag o).length=32:=dZ _ _
structure Mx where
 inn:List Ltr
 mid:List Ltr
 out:List Ltr
 left:List (List Nat)
 right:List (List Nat)
def kw (key:Int) (l:List Ltr) (t:Trn):Int:=if aA key=true then (if 64<l.length then 2 else if l.all Ltr.good=true then (if t.fit (l.length:Int)=true then 0 else 140) else 100) else 90
def Trn.coms (f:Nat→Opn) (tag:ByteArray) (n:Nat):List (List Nat):=(List.range n).map (fun j=>nX tag (f j))
def jT (key:Int) (l:List Ltr) (t:Trn):Mx:=⟨l,t.mid key l l.length,t.out key l l.length,Trn.coms t.opL fE l.length,Trn.coms t.opR dB l.length⟩
def eU (b:Int):Bool:=decide (b=0)||decide (b=1)
def MV:Opn:=⟨0,0,0,0,[]⟩
def Mx.fits (key:Int) (m:Mx) (b:Int) (j:Nat) (o:Opn):Bool :=
 decide (0≤o.at_∧o.at_<(m.inn.length:Int))&&(decide ((if b=0 then m.left else m.right).getD j []=nX (if b=0 then fE else dB) o) &&
  (gG key (if b=0 then m.inn.getD o.at_.toNat aB else m.mid.getD j aB) o.r0 o.r1 o.r2).eqB (if b=0 then m.mid.getD j aB else m.out.getD o.at_.toNat aB))
def Mx.lens (m:Mx) (bits:List Int) (l:List Opn):Bool :=
 decide (m.mid.length=m.inn.length∧m.out.length=m.inn.length∧m.left.length=m.inn.length∧m.right.length=m.inn.length∧bits.length=m.inn.length∧l.length=m.inn.length)
def Mx.form (key:Int) (m:Mx) (bits:List Int):Bool :=
 aA key&&(decide (m.inn.length≤64)&&(m.inn.all Ltr.good&&(m.mid.all Ltr.good&&(m.out.all Ltr.good&&bits.all eU))))
def kz (key:Int) (m:Mx) (bits:List Int) (l:List Opn):Bool :=
 m.lens bits l&&(m.form key bits&&((List.range m.inn.length).all (fun j=>m.fits key (bits.getD j 0) j (l.getD j MV))&&decide ((bits.zip (l.map Opn.at_)).Nodup)))
def Trn.opens (t:Trn) (bits:List Int):List Opn:=(List.range bits.length).map (fun j=>t.half (bits.getD j 0) j)
theorem Trn.opens_length (t:Trn) (bits:List Int):(t.opens bits).length=bits.length:=by simp [Trn.opens]
theorem Trn.opens_at {t:Trn} {bits:List Int} {j:Nat} (h:j<bits.length):(t.opens bits)[j]?=some (t.half (bits.getD j 0) j):=by
 unfold Trn.opens;rw [aaD,List.getElem?_range h];rfl
theorem tZ {b:Int} : eU b=true↔b=0∨b=1:=by unfold eU;simp
theorem Ib {key:Int} {x:Ltr} {r:Tri} (hk:aA key=true) (h:x.good=true):(agT key x r).good=true:=by
 unfold agT gG;rw [if_pos hk,if_pos h];exact nC hk h
theorem Trn.left_at {t:Trn} {n j:Nat} (h:t.fit (n:Int)=true) (hj:j<n):∃ i:Nat,i<n∧t.left[j]?=some (i:Int):=by
 obtain ⟨⟨h1,_⟩,_,h7,_⟩:=Trn.fit_of h;obtain ⟨ls,e1,_,b1,l1⟩:=pV h7;obtain ⟨i,hi⟩:∃ i,ls[j]?=some i:=⟨_,aac (by omega)⟩
 exact ⟨i,by have:=b1 i (aam hi);omega,by rw [e1,aaD,hi];rfl⟩
theorem Trn.right_at {t:Trn} {n j:Nat} (h:t.fit (n:Int)=true) (hj:j<n):∃ i:Nat,i<n∧t.right[j]?=some (i:Int):=by
 obtain ⟨⟨_,h2,_⟩,_,_,h8⟩:=Trn.fit_of h;obtain ⟨ls,e1,_,b1,l1⟩:=pV h8;obtain ⟨i,hi⟩:∃ i,ls[j]?=some i:=⟨_,aac (by omega)⟩
 exact ⟨i,by have:=b1 i (aam hi);omega,by rw [e1,aaD,hi];rfl⟩
theorem aS {α:Type} {l:List α} {k:Nat} {x d:α} (h:l[k]?=some x):l.getD k d=x:=by rw [aaU,h];rfl
section
variable {t:Trn} {key:Int} {inn:List Ltr} (hf:t.fit (inn.length:Int)=true) (hk:aA key=true) (hg:inn.all Ltr.good=true)
theorem Trn.mid_length (n:Nat):(t.mid key inn n).length=n:=by simp [Trn.mid]
theorem Trn.mid_at {n j:Nat} (h:j<n):(t.mid key inn n)[j]?=some (t.midAt key inn j):=by
 unfold Trn.mid;rw [aaD,List.getElem?_range h];rfl
include hf hg in
theorem Trn.midAt_in {j:Nat} (hj:j<inn.length):∃ i x,i<inn.length∧t.left[j]?=some ((i:Nat):Int)∧inn[i]?=some x∧x.good=true∧t.midAt key inn j=agT key x (t.rl.getD j (0,0,0)):=by
 obtain ⟨i,hi,hl⟩:=Trn.left_at hf hj;obtain ⟨x,hx⟩:∃ x,inn[i]?=some x:=⟨_,aac hi⟩
 refine ⟨i,x,hi,hl,hx,aau.1 hg x (aam hx),?_⟩;unfold Trn.midAt;rw [aS hl,show ((i:Int)).toNat=i by omega,aS hx]
include hf hk hg in
theorem Trn.mid_good {j:Nat} (hj:j<inn.length):(t.midAt key inn j).good=true:=by
 obtain ⟨i,x,_,_,_,h,e⟩:=Trn.midAt_in (key:=key) hf hg hj;rw [e];exact Ib hk h
include hf hk hg in
theorem Trn.mids_good:(t.mid key inn inn.length).all Ltr.good=true:=by
 rw [aau];intro x hx;obtain ⟨j,hj,rfl⟩:=aaK.1 hx;exact Trn.mid_good hf hk hg (aaE.1 hj)
include hf in
theorem Trn.out_is {p:Nat} (hp:p<inn.length):∃ j,j<inn.length∧t.right[j]?=some ((p:Nat):Int)∧(t.out key inn inn.length)[p]?=some (t.outAt key inn j):=by
 obtain ⟨⟨_,h2,_⟩,_,_,h8⟩:=Trn.fit_of hf;obtain ⟨rs,e2,n2,b2,l2⟩:=pV h8;obtain ⟨j,hj⟩:=MM n2 (fun x hx=>by have:=b2 x hx;omega) (n:=inn.length) (by omega) hp
 have hjn:j<inn.length:=by
  have:=(aag.1 hj).1
  omega
 have hr:t.right[j]?=some (p:Int):=by rw [e2,aaD,hj];rfl
 exact ⟨j,hjn,hr,Trn.out_at hf hjn hr⟩
include hf hk hg in
theorem Trn.outs_good:(t.out key inn inn.length).all Ltr.good=true:=by
 rw [aau];intro x hx;obtain ⟨p,hp⟩:=List.getElem?_of_mem hx;have hpl:p<inn.length:=by have:=(aag.1 hp).1;rwa [Trn.out_length] at this
 obtain ⟨j,hj,_,e⟩:=Trn.out_is (key:=key) hf hpl;rw [hp] at e;injection e with e
 rw [e];exact Ib hk (Trn.mid_good hf hk hg hj)
theorem Bi {l:List Int} (h:nS l=true):l.Nodup:=by
 unfold nS at h;rw [aal,decide_eq_true_eq] at h;exact h.2
theorem Trn.half_at (t:Trn) (b:Int) (j:Nat):(t.half b j).at_=if b=0 then t.left.getD j 0 else t.right.getD j 0:=by
 unfold Trn.half
 split <;> rfl
include hf in
theorem Trn.places {bits:List Int} (hl:bits.length=inn.length):(bits.zip ((t.opens bits).map Opn.at_)).Nodup:=by
 obtain ⟨⟨h1,h2,_⟩,_,h7,h8⟩:=Trn.fit_of hf;have n1:=Bi h7;have n2:=Bi h8;rw [List.Nodup,abp];intro i j hi hj hij;have hlz:(bits.zip ((t.opens bits).map Opn.at_)).length=bits.length:=by rw [List.length_zip,aaQ,Trn.opens_length,Nat.min_self]
 rw [hlz] at hi hj;rw [List.getElem_zip,List.getElem_zip,List.getElem_map,List.getElem_map];have ei:=Trn.opens_at (t:=t) hi;have ej:=Trn.opens_at (t:=t) hj;rw [aac (by rw [Trn.opens_length];exact hi)] at ei;rw [aac (by rw [Trn.opens_length];exact hj)] at ej;injection ei with ei
 injection ej with ej
 rw [ei,ej,Trn.half_at,Trn.half_at,aS (aac hi),aS (aac hj)];intro e;rw [Prod.mk.injEq] at e;obtain ⟨eb,ea⟩:=e;rw [eb] at ea;by_cases h0:bits[j]=0
 ·rw [if_pos h0,if_pos h0,aS (aac (show i<t.left.length by omega)),aS (aac (show j<t.left.length by omega))] at ea
  have:=tV n1 _ _ ea
  omega
 ·rw [if_neg h0,if_neg h0,aS (aac (show i<t.right.length by omega)),aS (aac (show j<t.right.length by omega))] at ea
  have:=tV n2 _ _ ea
  omega
def Mx.withOut (m:Mx) (out:List Ltr):Mx:={ m with out:=out }
theorem MW {f:Nat→Opn} {tag:ByteArray} {n j:Nat} (h:j<n):(Trn.coms f tag n).getD j []=nX tag (f j):=by
 unfold Trn.coms;exact aS (by rw [aaD,List.getElem?_range h];rfl)
include hf hg in
theorem Trn.fits_of {out:List Ltr} {bits:List Int} {j:Nat} (hj:j<inn.length) (hb:eU (bits.getD j 0)=true)
  (ho:bits.getD j 0≠0→∀ p:Nat,t.right[j]?=some (p:Int)→out.getD p aB=t.outAt key inn j):((jT key inn t).withOut out).fits key (bits.getD j 0) j (t.half (bits.getD j 0) j)=true:=by
 generalize bits.getD j 0=b at *;obtain ⟨i,x,hi,hl,hx,_,hm⟩:=Trn.midAt_in (key:=key) hf hg hj;obtain ⟨p,hp,hr⟩:=Trn.right_at hf hj;have hmid:(t.mid key inn inn.length).getD j aB=t.midAt key inn j:=aS (Trn.mid_at hj);rcases tZ.1 hb with rfl | rfl
 ·show (decide _&&(decide ((Trn.coms t.opL fE inn.length).getD j []=nX fE (t.opL j))&&(gG key (inn.getD (t.left.getD j 0).toNat aB) _ _ _).eqB ((t.mid key inn inn.length).getD j aB)))=true
  rw [hmid,MW hj];have e2:(t.half 0 j).at_=(i:Int):=(Trn.half_at t 0 j).trans (aS hl);rw [e2,aS hl,show ((i:Int)).toNat=i by omega,aS hx,hm,show ((jT key inn t).withOut out).inn=inn from rfl,decide_eq_true (show 0≤(i:Int)∧(i:Int)<(inn.length:Int) by omega),decide_eq_true rfl,aaM,aaM];exact Ltr.eqB_iff.2 rfl
 ·show (decide _&&(decide ((Trn.coms t.opR dB inn.length).getD j []=nX dB (t.opR j))&&(gG key ((t.mid key inn inn.length).getD j aB) _ _ _).eqB (out.getD (t.right.getD j 0).toNat aB)))=true
  rw [hmid,MW hj];have e2:(t.half 1 j).at_=(p:Int):=(Trn.half_at t 1 j).trans (aS hr);rw [e2,aS hr,show ((p:Int)).toNat=p by omega,ho (by decide) p hr,show ((jT key inn t).withOut out).inn=inn from rfl,decide_eq_true (show 0≤(p:Int)∧(p:Int)<(inn.length:Int) by omega),decide_eq_true rfl,aaM,aaM];exact Ltr.eqB_iff.2 rfl
include hf hk hg in
theorem Trn.shuf_of {out:List Ltr} {bits:List Int} (hol:out.length=inn.length) (hog:out.all Ltr.good=true) (hbl:bits.length=inn.length) (hb:bits.all eU=true)
  (ho:∀ j,j<inn.length→bits.getD j 0≠0→∀ p:Nat,t.right[j]?=some (p:Int)→out.getD p aB=t.outAt key inn j):kz key ((jT key inn t).withOut out) bits (t.opens bits)=true:=by
 obtain ⟨_,h64,_,_⟩:=Trn.fit_of hf
 have c1:((jT key inn t).withOut out).lens bits (t.opens bits)=true:=by
  unfold Mx.lens;refine decide_eq_true ⟨?_,hol,?_,?_,hbl,by rw [Trn.opens_length];exact hbl⟩
  ·exact Trn.mid_length _
  ·show (Trn.coms _ _ _).length=_;simp [Trn.coms];rfl
  ·show (Trn.coms _ _ _).length=_;simp [Trn.coms];rfl
 have c2:((jT key inn t).withOut out).form key bits=true:=by
  unfold Mx.form;have e1:((jT key inn t).withOut out).inn=inn:=rfl;have e2:((jT key inn t).withOut out).mid=t.mid key inn inn.length:=rfl;have e3:((jT key inn t).withOut out).out=out:=rfl;rw [e1,e2,e3,hk,hg,Trn.mids_good hf hk hg,hog,hb,decide_eq_true h64];rfl
 unfold kz;rw [c1,c2,aaM,aaM,aal,aau];refine ⟨fun j hj=>?_,decide_eq_true (Trn.places hf hbl)⟩;have hj':j<inn.length:=aaE.1 hj;rw [aS (Trn.opens_at (by omega))];refine Trn.fits_of hf hg hj' ?_ (ho j hj');rw [aS (aac (show j<bits.length by omega))];exact aau.1 hb _ (List.getElem_mem _)
include hf hk hg in
theorem Trn.shuf_ok {bits:List Int} (hbl:bits.length=inn.length) (hb:bits.all eU=true):kz key (jT key inn t) bits (t.opens bits)=true :=
 Trn.shuf_of hf hk hg (out:=t.out key inn inn.length) (Trn.out_length ..) (Trn.outs_good hf hk hg) hbl hb (fun _ hj _ _ hp=>aS (Trn.out_at hf hj hp))
end
end
end Go.Proofs.YthbibbkbaphpkaaGreatDoor

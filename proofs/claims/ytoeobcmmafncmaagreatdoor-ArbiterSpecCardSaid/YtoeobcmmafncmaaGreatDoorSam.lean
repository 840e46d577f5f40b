/- equal.Prove, of a secret and an element. -/
import Derived.Test.YtoeobcmmafncmaaGreatDoorSal
import Derived.Deep.DeepCutAuto
import Derived.Laws.MakeOwn
import Derived.Test.YtoeobcmmafncmaaGreatDoorSab
set_option maxRecDepth 1000000
set_option maxHeartbeats 16000000
namespace Go.Proofs.YtoeobcmmafncmaaGreatDoor
open Go.RowKit
def nonS:ByteArray:=⟨#[101,113,117,97,108,32,110,111,110,99,101]⟩
def nonH (s a:Int):Nat:=hashV (sb nonS) (encN [.int s,.int a])
def nonV (s a:Int):Int:=if (nonH s a:Int)≤1 then (1:Int) else (nonH s a:Int)
theorem nonV_rng (s a:Int):1≤nonV s a∧nonV s a<1073741789:=by
 have:=hashV_lt (sb nonS) (encN [.int s,.int a])
 unfold nonV nonH
 split <;> omega
def provE (s a:Int):Int:=(chalV (powV 4 s) a (powV a s) (powV 4 (nonV s a)) (powV a (nonV s a)):Nat)
def provS (s a:Int):Int:=(nonV s a+provE s a*s) % 1073741789
theorem provE_rng (s a:Int):0≤provE s a∧provE s a<1073741789:=by
 unfold provE chalV
 have:=hashV_lt (sb chalS) (encN [.int (powV 4 s),.int a,.int (powV a s),.int (powV 4 (nonV s a)),.int (powV a (nonV s a))])
 omega
theorem inI_of {a:Int} (h1:1≤a) (h2:a<2147483579):inI a:=⟨by omega,by omega⟩
theorem powV_inI (a n:Int):inI (powV a n):=by have:=powV_inP a n;unfold inP at this;exact ⟨by omega,by omega⟩
theorem mul_rngQ {a b:Int} (ha:0≤a) (hb:0≤b) (ha2:a<1073741789) (hb2:b<1073741789):0≤a*b∧a*b≤1152921500000000000:=by
 refine ⟨Int.mul_nonneg ha hb,?_⟩
 have h:a*b≤1073741788*1073741788:=Int.mul_le_mul (by omega) (by omega) hb (by omega)
 omega
theorem equal_prove (s a:Int) (W:World) (hs:secB s=true) (ha:validB a=true) (hG:ShaG W) :
  Calls Tryz.prog 50 #[.int .i64 s,.int .i64 a] W (Ret (.tuple #[.int .i64 (powV a s),.agg #[.int .i64 (provE s a),.int .i64 (provS s a)],.int .i64 0]) W):=by
 obtain ⟨s1,s2⟩:=secB_rng hs
 obtain ⟨a1,a2⟩:=validB_rng ha
 have Hd:Hid (powV a s=powV a s):=rfl
 obtain ⟨W1,hW1⟩:∃ W1,W1=W.alloc (.cells #[.int .i64 0,.int .i64 0] 110):=⟨_,rfl⟩
 have h1:Below W.heap.size W W1:=by rw [hW1];exact bAl (bRefl W) _
 have B1:Blk W1 W.heap.size 110 #[.int .i64 0,.int .i64 0]:=by rw [hW1];exact Blk.new _ _ _ _ rfl
 have q1:=el_public s W1
 have e1:pubV s=powV 4 s:=if_pos hs
 have e2:pubE s=0:=by unfold pubE;rw [if_pos hs];unfold powE;rw [if_pos valid_four]
 rw [e1,e2] at q1
 have Ha:Hid (powE a=0):=by show _=_;unfold powE;rw [if_pos ha]
 clear e1 e2 hs ha Hd
 go_enter Tryz.func50,Tryz.ntmps50
 go_upto_region 1 with fail
 rw [←hW1]
 clear hW1
 go_wp2_with fail
 (with_reducible refine q1.mono ?_)
 rintro e w2 ⟨rfl,b2⟩
 clear q1
 replace B1:=B1.below b2 B1.lt
 replace h1:=bCall h1 b2
 clear b2
 have q2:=group_pow a s w2
 rw [Ha.out] at q2
 go_wp2_with fail
 (with_reducible refine q2.mono ?_)
 rintro e w3 ⟨rfl,b3⟩
 clear q2
 replace B1:=B1.below b3 B1.lt
 replace h1:=bCall h1 b3
 clear b3
 go_wp2_with fail
 refine (equal_text _ 2 2 [s,a] _ (by exact Rd.new w3 (ints [s,a]) _ 1 2 _ rfl rfl) (by
  intro x hx
  simp only [List.mem_cons,List.not_mem_nil,or_false] at hx
  rcases hx with rfl | rfl
  ·exact ⟨by omega,by omega⟩
  ·exact ⟨by omega,by omega⟩) (by omega)).mono ?_
 rintro e w4 ⟨v,rfl,b4,A2,c2,rfl,hR,_,_,hnil⟩
 replace b4:=bCall (bAl (bRefl w3) _) b4
 replace B1:=B1.below b4 B1.lt
 replace h1:=bCall h1 b4
 clear b4
 have hl:=encN_len (l:=[.int s,.int a]) (by
  intro x hx
  simp only [List.mem_cons,List.not_mem_nil,or_false] at hx
  rcases hx with rfl | rfl
  ·exact ⟨by omega,by omega⟩
  ·exact ⟨by omega,by omega⟩) (by simp)
 have q:=hash_any nonS A2 _ c2 _ w4 hR hnil (okB_encN _) (by decide) (Nat.le_trans hl (by decide)) (hG.below h1)
 have q3:Calls Tryz.prog 89 #[.string ⟨#[101,113,117,97,108,32,110,111,110,99,101]⟩,.slice A2 (encN [.int s,.int a]).length c2] w4 (Ret (.int .i64 (nonH s a:Nat)) w4):=q
 clear hl hR hnil q
 go_wp2_with fail
 (with_reducible refine q3.mono ?_)
 rintro e w5 ⟨rfl,b5⟩
 clear q3
 replace B1:=B1.below b5 B1.lt
 replace h1:=bCall h1 b5
 clear b5
 have hr:=nonV_rng s a
 have hE:=provE_rng s a
 have HE:Hid (((chalV (powV 4 s) a (powV a s) (powV 4 (nonV s a)) (powV a (nonV s a)):Nat):Int)=provE s a):=rfl
 have HS:Hid ((nonV s a+provE s a*s) % 1073741789=provS s a):=rfl
 have hv:nonV s a=if (nonH s a:Int)≤1 then (1:Int) else (nonH s a:Int):=rfl
 have hm:=mul_rngQ hE.1 (show 0≤s by omega) hE.2 s2
 generalize provE s a=E at *
 generalize provS s a=S at *
 obtain ⟨m1,m2⟩:=hm
 obtain ⟨E1,E2⟩:=hE
 obtain ⟨hr1,hr2⟩:=hr
 by_cases h:(nonH s a:Int)≤1
 all_goals
  first | rw [if_pos h] at hv | rw [if_neg h] at hv
  rw [hv] at HE HS hr1 hr2
  clear hv
  go_wp2_with fail
  (with_reducible refine (equal_pow 4 _ _).mono ?_)
  rintro e w6 ⟨rfl,b6⟩
  replace B1:=B1.below b6 B1.lt
  replace h1:=bCall h1 b6
  clear b6
  go_wp2_with fail
  (with_reducible refine (equal_pow a _ _).mono ?_)
  rintro e w7 ⟨rfl,b7⟩
  replace B1:=B1.below b7 B1.lt
  replace h1:=bCall h1 b7
  clear b7
  go_wp2_with fail
  (with_reducible refine (challenge_any (powV 4 s) a (powV a s) _ _ _ (powV_inI _ _) (inI_of a1 a2) (powV_inI _ _) (powV_inI _ _) (powV_inI _ _) (hG.below h1)).mono ?_)
  rintro e w8 ⟨rfl,b8⟩
  rw [HE.out]
  replace B1:=B1.below b8 B1.lt
  replace h1:=bCall h1 b8
  clear b8 HE
  obtain ⟨x0,x1⟩:=B1.two
  have z0:=B1.frozen 0
  have z1:=B1.frozen 1
  go_upto_region 10 with fail
  rw [HS.out]
  have B2:Blk ((w8.setCell ⟨W.heap.size,0,none⟩ (.int .i64 E)).setCell ⟨W.heap.size,1,none⟩ (.int .i64 S)) W.heap.size 110 #[.int .i64 E,.int .i64 S]:=by simpa using (B1.set_ 0 (.int .i64 E)).set_ 1 (.int .i64 S)
  have h2:=bSet (bSet h1 (p:=⟨W.heap.size,0,none⟩) (Nat.le_refl _) (.int .i64 E)) (p:=⟨W.heap.size,1,none⟩) (Nat.le_refl _) (.int .i64 S)
  clear x0 x1 z0 z1 B1 h1 HS
  generalize (w8.setCell ⟨W.heap.size,0,none⟩ (.int .i64 E)).setCell ⟨W.heap.size,1,none⟩ (.int .i64 S)=w9 at *
  have KS:Hid (∀ w',Below w9.heap.size w9 w'→_):=Lib.hid (fun w' h=>(B2.below h B2.lt).two)
  refine wp_region_maskB (f:=3) (n:=1) KS [1,2,0,0,0] ?_
  simp only [pickH,pickT]
  refine wpHeads_t ?_
  refine wpHeads_r ?_
  refine wpHeads_nil ?_
  iterate 1 (refine wpTailS_cons (fun K hK=>?_);go_simp;(first | (fail) | skip);refine mask_go hK KS ?_;clear hK K)
  refine wpTailS_zero ?_
  refine wpList_store_row (by rfl) 110 (.tmp 5) (.tmp 53) (by rfl) W.heap.size #[.int .i64 E,.int .i64 S] (by rfl) (by rfl) 110 _ B2 (by kernel_rfl) (by rfl) (by simp [Value.oneCell']) ?_
  have B3:Blk (w9.drew.setRow W.heap.size #[.int .i64 E,.int .i64 S]) W.heap.size 110 #[.int .i64 E,.int .i64 S]:=setRow_heap w9.drew W.heap.size _ _ 110 _ B2
  have h3:=below_setRow (bDr h2) (Nat.le_refl _) #[.int .i64 E,.int .i64 S]
  generalize w9.drew.setRow W.heap.size #[.int .i64 E,.int .i64 S]=w10 at *
  clear B2 h2 KS
  obtain ⟨e0,e1⟩:=B3.two
  go_wp2_with fail
  refine NoPanic.normal ?_
  go_wp2_with fail
  exact bodyPost_ret (v := .tuple #[.int .i64 (powV a s),.agg #[.int .i64 E,.int .i64 S],.int .i64 0]) (by simp [results,Tryz.results50,go_sem,e0,e1]) rfl ⟨rfl,h3⟩
def Ltr.setAt (x:Ltr) (k:Fin 3) (a b:Int):Ltr:=match k with
 | 0=>{ x with a0:=a,b0:=b }
 | 1=>{ x with a1:=a,b1:=b }
 | 2=>{ x with a2:=a,b2:=b }
theorem Ltr.setAt_same (x:Ltr) (k:Fin 3) (a b:Int):(x.setAt k a b).aAt k=a∧(x.setAt k a b).bAt k=b:=by match k with | 0=>exact ⟨rfl,rfl⟩ | 1=>exact ⟨rfl,rfl⟩ | 2=>exact ⟨rfl,rfl⟩
theorem Ltr.setAt_other (x:Ltr) (k j:Fin 3) (a b:Int) (h:j≠k):(x.setAt k a b).aAt j=x.aAt j∧(x.setAt k a b).bAt j=x.bAt j:=by
 match k,j with
 | 0,0=>exact absurd rfl h
 | 0,1=>exact ⟨rfl,rfl⟩
 | 0,2=>exact ⟨rfl,rfl⟩
 | 1,0=>exact ⟨rfl,rfl⟩
 | 1,1=>exact absurd rfl h
 | 1,2=>exact ⟨rfl,rfl⟩
 | 2,0=>exact ⟨rfl,rfl⟩
 | 2,1=>exact ⟨rfl,rfl⟩
 | 2,2=>exact absurd rfl h
theorem Ltr.ext_at {x y:Ltr} (h:∀ k,x.aAt k=y.aAt k∧x.bAt k=y.bAt k):x=y:=by
 obtain ⟨a0,b0⟩:=h 0
 obtain ⟨a1,b1⟩:=h 1
 obtain ⟨a2,b2⟩:=h 2
 cases x;cases y
 simp only [Ltr.aAt,Ltr.bAt] at *
 subst a0;subst b0;subst a1;subst b1;subst a2;subst b2
 rfl
def wrZ {l:List Ltr} (f:Int→Int→Int×Int) (st:List Ltr) (z:Pl l):List Ltr:=st.set z.i ((st.getD z.i zeroL).setAt z.k (f z.a z.b).1 (f z.a z.b).2)
theorem wrZ_length {l:List Ltr} (f:Int→Int→Int×Int) (st:List Ltr) (z:Pl l):(wrZ f st z).length=st.length:=by simp [wrZ]
def Ltr.by (f:Int→Int→Int×Int) (x:Ltr):Ltr:=⟨(f x.a0 x.b0).1,(f x.a0 x.b0).2,(f x.a1 x.b1).1,(f x.a1 x.b1).2,(f x.a2 x.b2).1,(f x.a2 x.b2).2⟩
theorem Ltr.by_at (f:Int→Int→Int×Int) (x:Ltr) (k:Fin 3):(x.by f).aAt k=(f (x.aAt k) (x.bAt k)).1∧(x.by f).bAt k=(f (x.aAt k) (x.bAt k)).2:=by match k with | 0=>exact ⟨rfl,rfl⟩ | 1=>exact ⟨rfl,rfl⟩ | 2=>exact ⟨rfl,rfl⟩
theorem snocInd {α:Type} {P:List α→Prop} (h0:P []) (h1:∀ l x,P l→P (l++[x])) (l:List α):P l:=by
 have:∀ r:List α,P r.reverse:=fun r=>by
  induction r with
  | nil=>exact h0
  | cons x r ih=>rw [List.reverse_cons];exact h1 _ _ ih
 simpa using this l.reverse
theorem wr_foldl {l:List Ltr} (f:Int→Int→Int×Int) (pre:List (Pl l)):(pre.foldl (wrZ f) (List.replicate l.length zeroL)).length=l.length ∧
  ∀ z∈pre,((pre.foldl (wrZ f) (List.replicate l.length zeroL)).getD z.i zeroL).aAt z.k=(f z.a z.b).1∧((pre.foldl (wrZ f) (List.replicate l.length zeroL)).getD z.i zeroL).bAt z.k=(f z.a z.b).2:=by
 refine snocInd (P:=fun pre=>(pre.foldl (wrZ f) (List.replicate l.length zeroL)).length=l.length ∧
  ∀ z∈pre,((pre.foldl (wrZ f) (List.replicate l.length zeroL)).getD z.i zeroL).aAt z.k=(f z.a z.b).1∧((pre.foldl (wrZ f) (List.replicate l.length zeroL)).getD z.i zeroL).bAt z.k=(f z.a z.b).2) ?_ ?_ pre
 ·exact ⟨by simp,fun z hz=>by cases hz⟩
 ·intro pre w ih
  obtain ⟨h1,h2⟩:=ih
  rw [List.foldl_append]
  simp only [List.foldl_cons,List.foldl_nil]
  generalize pre.foldl (wrZ f) (List.replicate l.length zeroL)=st at *
  refine ⟨by rw [wrZ_length,h1],fun z hz=>?_⟩
  have hlt:w.i<st.length:=by rw [h1];exact w.hi
  by_cases hi:z.i=w.i
  ·have hget:(wrZ f st w).getD z.i zeroL=(st.getD w.i zeroL).setAt w.k (f w.a w.b).1 (f w.a w.b).2:=by
    rw [hi];unfold wrZ
    rw [List.getD_eq_getElem?_getD,List.getElem?_set_self hlt];rfl
   rw [hget]
   by_cases hk:z.k=w.k
   ·have hzw:z=w:=by cases z;cases w;simp only at hi hk;subst hi;subst hk;rfl
    subst hzw
    exact Ltr.setAt_same _ _ _ _
   ·have:=Ltr.setAt_other (st.getD w.i zeroL) w.k z.k (f w.a w.b).1 (f w.a w.b).2 hk
    rw [this.1,this.2]
    rcases List.mem_append.1 hz with hz | hz
    ·have:=h2 z hz;rw [hi] at this;exact this
    ·obtain rfl:z=w:=by simpa using hz
     exact absurd rfl hk
  ·have hget:(wrZ f st w).getD z.i zeroL=st.getD z.i zeroL:=by
    unfold wrZ
    rw [List.getD_eq_getElem?_getD,List.getElem?_set_ne (fun e=>hi e.symm),←List.getD_eq_getElem?_getD]
   rw [hget]
   rcases List.mem_append.1 hz with hz | hz
   ·exact h2 z hz
   ·obtain rfl:z=w:=by simpa using hz
    exact absurd rfl hi
theorem wr_done {l:List Ltr} (f:Int→Int→Int×Int) {pre:List (Pl l)} (h:∀ z:Pl l,z∈pre):pre.foldl (wrZ f) (List.replicate l.length zeroL)=l.map (Ltr.by f):=by
 obtain ⟨h1,h2⟩:=wr_foldl f pre
 apply List.ext_getElem?
 intro i
 rcases Nat.lt_or_ge i l.length with hi | hi
 ·have hk:∀ k,((pre.foldl (wrZ f) (List.replicate l.length zeroL)).getD i zeroL).aAt k=((l[i]).by f).aAt k∧((pre.foldl (wrZ f) (List.replicate l.length zeroL)).getD i zeroL).bAt k=((l[i]).by f).bAt k:=fun k=>by
   have:=h2 ⟨i,k,hi⟩ (h _)
   have hb:=Ltr.by_at f l[i] k
   exact ⟨this.1.trans hb.1.symm,this.2.trans hb.2.symm⟩
  have he:=Ltr.ext_at hk
  rw [List.getElem?_map,List.getElem?_eq_getElem hi,List.getElem?_eq_getElem (by rw [h1];exact hi)]
  rw [List.getD_eq_getElem?_getD,List.getElem?_eq_getElem (by rw [h1];exact hi)] at he
  exact congrArg some he
 ·rw [List.getElem?_eq_none (by rw [h1];exact hi),List.getElem?_eq_none (by simpa using hi)]
theorem flat_set {st:List Ltr} : ∀ {i j:Nat} {v:Value} (x y:Ltr),st[i]?=some x→j<6→y.cl=x.cl.set j v→(st.set i y).flatMap Ltr.cl=(st.flatMap Ltr.cl).set (i*6+j) v:=by
 induction st with
 | nil=>intro i j v x y h;simp at h
 | cons s st ih =>
  intro i j v x y h hj he
  cases i with
  | zero =>
   obtain rfl:s=x:=by simpa using h
   rw [List.set_cons_zero,List.flatMap_cons,List.flatMap_cons,he,Nat.zero_mul,Nat.zero_add,List.set_append_left _ _ (by rw [Ltr.cl_length];exact hj)]
  | succ i =>
   rw [List.set_cons_succ,List.flatMap_cons,List.flatMap_cons,ih x y (by simpa using h) hj he,List.set_append_right _ _ (by rw [Ltr.cl_length];omega),Ltr.cl_length]
   congr 2
   omega
theorem wrZ_cells {l:List Ltr} (f:Int→Int→Int×Int) (st:List Ltr) (z:Pl l) (hz:z.i<st.length) :
  ((wrZ f st z).flatMap Ltr.cl).toArray=(((st.flatMap Ltr.cl).toArray.setIfInBounds (z.i*6+z.k.val*2) (.int .i64 (f z.a z.b).1)).setIfInBounds (z.i*6+z.k.val*2+1) (.int .i64 (f z.a z.b).2)):=by
 obtain ⟨x,hx⟩:∃ x,st[z.i]?=some x:=⟨_,List.getElem?_eq_getElem hz⟩
 have hk:=z.k.isLt
 have e:st.getD z.i zeroL=x:=by rw [List.getD_eq_getElem?_getD,hx];rfl
 unfold wrZ
 rw [e]
 generalize (f z.a z.b).1=a at *
 generalize (f z.a z.b).2=b at *
 obtain ⟨i,k,hi⟩:=z
 dsimp only at *
 rw [List.setIfInBounds_toArray,List.setIfInBounds_toArray]
 congr 1
 have key:∀ (k:Fin 3),∃ y:Ltr,y.cl=x.cl.set (k.val*2) (.int .i64 a)∧(x.setAt k a b).cl=y.cl.set (k.val*2+1) (.int .i64 b):=fun k=>by
  match k with
  | 0=>exact ⟨{ x with a0:=a },rfl,rfl⟩
  | 1=>exact ⟨{ x with a1:=a },rfl,rfl⟩
  | 2=>exact ⟨{ x with a2:=a },rfl,rfl⟩
 obtain ⟨y,hy1,hy2⟩:=key k
 rw [←flat_set x y hx (by omega) hy1]
 have h2:=flat_set (st:=st.set i y) (i:=i) (j:=k.val*2+1) (v := .int .i64 b) y (x.setAt k a b) (List.getElem?_set_self hz) (by omega) hy2
 rw [List.set_set] at h2
 rw [h2,Nat.add_assoc]
theorem zero_cells (n:Nat):((List.replicate n zeroL).flatMap Ltr.cl).toArray=Array.replicate (n*6) (.int .i64 0):=by
 have:(List.replicate n zeroL).flatMap Ltr.cl=List.replicate (n*6) (.int .i64 0):=by
  induction n with
  | zero=>rfl
  | succ n ih=>rw [List.replicate_succ,List.flatMap_cons,ih,Nat.succ_mul,Nat.add_comm,←List.replicate_append_replicate];rfl
 rw [this];simp
def bareF (s:Int) (a b:Int):Int×Int:=(a,mulL [b,powV (powV a s) (-1)])
def prfF (s:Int) (a _b:Int):Int×Int:=(provE s a,provS s a)
def bareX (s:Int) (l:List Ltr):List Ltr:=l.map (Ltr.by (bareF s))
def bareP (s:Int) (l:List Ltr):List Ltr:=l.map (Ltr.by (prfF s))
attribute [local go_sem] Oper.semAt_some
theorem Blk.dr {w:World} {g:Nat} {t:TypeId} {cs:Array Value} (h:Blk w g t cs):Blk w.drew g t cs:=h
theorem made_zero (n:Nat):madeCells zeroL.cells (n*6)=((List.replicate n zeroL).flatMap Ltr.cl).toArray:=by
 rw [zero_cells]
 apply Array.ext
 ·rw [size_madeCells,Array.size_replicate]
 ·intro i h1 h2
  simp only [madeCells,Array.getElem_map,Array.getElem_range,Array.getElem_replicate]
  have h6:i % 6<6:=Nat.mod_lt _ (by omega)
  show zeroL.cells[i % 6]! = _
  generalize i % 6=j at *
  obtain rfl | rfl | rfl | rfl | rfl | rfl:j=0∨j=1∨j=2∨j=3∨j=4∨j=5:=by omega
  all_goals rfl
theorem sealed_info:(Tryz.prog.info? 70).map (fun i=>(i.zero,i.size,i.bytes))=some (some (.agg zeroL.cells),6,48):=by kernel_rfl
theorem prf_info:(Tryz.prog.info? 115).map (fun i=>(i.zero,i.size,i.bytes))=some (some (.agg zeroL.cells),6,48):=by kernel_rfl
theorem make_letters (n:Nat) (hn:n≤100000) (w:World):(Instr.makeSlice 25 (.int .i64 (n:Nat)) (.int .i64 (n:Nat))).run Tryz.prog w = .ok (.slice (some ⟨w.heap.size,0,none⟩) n n) (w.alloc (.cells ((List.replicate n zeroL).flatMap Ltr.cl).toArray 70)):=by
 obtain ⟨i0,hi,hz0,hz1,hz2⟩:=info_parts sealed_info
 have:=run_makeSlice (w:=w) (P:=Tryz.prog) 25 70 i0 (.agg zeroL.cells) Tryz.underlying25 hi hz0 .i64 .i64 (n:Int) n (by omega) (Int.le_refl _) (by rw [hz1,Int.toNat_natCast];omega) (by rw [hz2];omega) (by omega)
 rw [←made_zero]
 rw [Int.toNat_natCast,hz1] at this
 exact this
theorem make_proofs (n:Nat) (hn:n≤100000) (w:World):(Instr.makeSlice 44 (.int .i64 (n:Nat)) (.int .i64 (n:Nat))).run Tryz.prog w = .ok (.slice (some ⟨w.heap.size,0,none⟩) n n) (w.alloc (.cells ((List.replicate n zeroL).flatMap Ltr.cl).toArray 115)):=by
 obtain ⟨i0,hi,hz0,hz1,hz2⟩:=info_parts prf_info
 have:=run_makeSlice (w:=w) (P:=Tryz.prog) 44 115 i0 (.agg zeroL.cells) Tryz.underlying44 hi hz0 .i64 .i64 (n:Int) n (by omega) (Int.le_refl _) (by rw [hz1,Int.toNat_natCast];omega) (by rw [hz2];omega) (by omega)
 rw [←made_zero]
 rw [Int.toNat_natCast,hz1] at this
 exact this
def bareE (s:Int) (l:List Ltr):Int:=if secB s=true then chkL l else 110
def RetBare (s:Int) (l:List Ltr) (w:World) (r:Ending) (w':World):Prop :=
 Below w.heap.size w w'∧(bareE s l≠0→r = .returned (.tuple #[.slice none 0 0,.slice none 0 0,.int .i64 (bareE s l)])) ∧
 (bareE s l=0→∃ g1 g2,r = .returned (.tuple #[.slice (some ⟨g1,0,none⟩) l.length l.length,.slice (some ⟨g2,0,none⟩) l.length l.length,.int .i64 0]) ∧
  w.heap.size≤g1∧w.heap.size≤g2∧Blk w' g1 70 ((bareX s l).flatMap Ltr.cl).toArray∧Blk w' g2 115 ((bareP s l).flatMap Ltr.cl).toArray)
def Two (W:World) (n:Nat) (s:Int) (X Y:Array Value) (wc:World):Prop :=
 ∃ g1 g2,W.heap.size+1+1<g1∧W.heap.size+1+1<g2∧g1≠g2∧Below W.heap.size W wc∧Blk wc W.heap.size 3 #[.int .i64 s]∧Blk wc (W.heap.size+1) 25 #[.slice (some ⟨g1,0,none⟩) n n]∧Blk wc (W.heap.size+1+1) 44 #[.slice (some ⟨g2,0,none⟩) n n] ∧
   Blk wc g1 70 X∧Blk wc g2 115 Y
section
variable {W w5:World} {n:Nat} {s:Int} {X Y:Array Value} {u v:Value} (h3:Below W.heap.size W w5) (hlt:W.heap.size+1+1<w5.heap.size) (BS:Blk w5 W.heap.size 3 #[.int .i64 s])
 (BX:Blk w5 (W.heap.size+1) 25 #[u]) (BP:Blk w5 (W.heap.size+1+1) 44 #[v])
include h3 hlt BS BX BP
theorem meetA:Two W n s X Y ((((w5.alloc (.cells X 70)).alloc (.cells Y 115)).setCell ⟨W.heap.size+1,0,none⟩ (.slice (some ⟨w5.heap.size,0,none⟩) n n)).setCell ⟨W.heap.size+1+1,0,none⟩ (.slice (some ⟨w5.heap.size+1,0,none⟩) n n)).drew:=by
 refine ⟨w5.heap.size,w5.heap.size+1,hlt,by omega,by omega,?_,?_,?_,?_,?_,?_⟩
 ·exact bDr (bSet (bSet (bAl (bAl h3 _) _) (by show W.heap.size≤W.heap.size+1;omega) _) (by show W.heap.size≤W.heap.size+1+1;omega) _)
 ·exact Blk.dr ((((BS.alloc _).alloc _).far (by show W.heap.size≠W.heap.size+1;omega) _).far (by show W.heap.size≠W.heap.size+1+1;omega) _)
 ·exact Blk.dr ((((BX.alloc _).alloc _).set1 _).far (by show W.heap.size+1≠W.heap.size+1+1;omega) _)
 ·exact Blk.dr ((((BP.alloc _).alloc _).far (by show W.heap.size+1+1≠W.heap.size+1;omega) _).set1 _)
 ·exact Blk.dr ((((Blk.new w5 _ X _ rfl).alloc _).far (by show w5.heap.size≠W.heap.size+1;omega) _).far (by show w5.heap.size≠W.heap.size+1+1;omega) _)
 ·exact Blk.dr (((Blk.new _ _ Y (w5.heap.size+1) (by simp)).far (by show w5.heap.size+1≠W.heap.size+1;omega) _).far (by show w5.heap.size+1≠W.heap.size+1+1;omega) _)
theorem meetB:Two W n s X Y ((((w5.alloc (.cells Y 115)).alloc (.cells X 70)).setCell ⟨W.heap.size+1,0,none⟩ (.slice (some ⟨w5.heap.size+1,0,none⟩) n n)).setCell ⟨W.heap.size+1+1,0,none⟩ (.slice (some ⟨w5.heap.size,0,none⟩) n n)).drew:=by
 refine ⟨w5.heap.size+1,w5.heap.size,by omega,hlt,by omega,?_,?_,?_,?_,?_,?_⟩
 ·exact bDr (bSet (bSet (bAl (bAl h3 _) _) (by show W.heap.size≤W.heap.size+1;omega) _) (by show W.heap.size≤W.heap.size+1+1;omega) _)
 ·exact Blk.dr ((((BS.alloc _).alloc _).far (by show W.heap.size≠W.heap.size+1;omega) _).far (by show W.heap.size≠W.heap.size+1+1;omega) _)
 ·exact Blk.dr ((((BX.alloc _).alloc _).set1 _).far (by show W.heap.size+1≠W.heap.size+1+1;omega) _)
 ·exact Blk.dr ((((BP.alloc _).alloc _).far (by show W.heap.size+1+1≠W.heap.size+1;omega) _).set1 _)
 ·exact Blk.dr (((Blk.new _ _ X (w5.heap.size+1) (by simp)).far (by show w5.heap.size+1≠W.heap.size+1;omega) _).far (by show w5.heap.size+1≠W.heap.size+1+1;omega) _)
 ·exact Blk.dr ((((Blk.new w5 _ Y _ rfl).alloc _).far (by show w5.heap.size≠W.heap.size+1;omega) _).far (by show w5.heap.size≠W.heap.size+1+1;omega) _)
theorem meetC:Two W n s X Y ((((w5.alloc (.cells X 70)).setCell ⟨W.heap.size+1,0,none⟩ (.slice (some ⟨w5.heap.size,0,none⟩) n n)).alloc (.cells Y 115)).setCell ⟨W.heap.size+1+1,0,none⟩ (.slice (some ⟨w5.heap.size+1,0,none⟩) n n)).drew:=by
 refine ⟨w5.heap.size,w5.heap.size+1,hlt,by omega,by omega,?_,?_,?_,?_,?_,?_⟩
 ·exact bDr (bSet (bAl (bSet (bAl h3 _) (by show W.heap.size≤W.heap.size+1;omega) _) _) (by show W.heap.size≤W.heap.size+1+1;omega) _)
 ·exact Blk.dr ((((BS.alloc _).far (by show W.heap.size≠W.heap.size+1;omega) _).alloc _).far (by show W.heap.size≠W.heap.size+1+1;omega) _)
 ·exact Blk.dr ((((BX.alloc _).set1 _).alloc _).far (by show W.heap.size+1≠W.heap.size+1+1;omega) _)
 ·exact Blk.dr ((((BP.alloc _).far (by show W.heap.size+1+1≠W.heap.size+1;omega) _).alloc _).set1 _)
 ·exact Blk.dr ((((Blk.new w5 _ X _ rfl).far (by show w5.heap.size≠W.heap.size+1;omega) _).alloc _).far (by show w5.heap.size≠W.heap.size+1+1;omega) _)
 ·exact Blk.dr ((Blk.new _ _ Y (w5.heap.size+1) (by simp [World.setCell])).far (by show w5.heap.size+1≠W.heap.size+1+1;omega) _)
end
theorem equal_bare (s:Int) (A:Option Addr) (n ca:Nat) (l:List Ltr) (W:World) (hA:Rd W W.heap.size 6 A n (l.flatMap Ltr.cl)) (hn:n≤9223372036854775807) (hG:ShaG W) :
  Calls Tryz.prog 20 #[.int .i64 s,.slice A n ca] W (RetBare s l W):=by
 obtain rfl:l.length=n:=Ltrs_length hA
 refine calls_of_wp_dm Tryz.func20 rfl ?_
 obtain ⟨W3,hW3⟩:∃ W3,W3=((W.alloc (.cells #[.int .i64 s] 3)).alloc (.cells #[.slice none 0 0] 25)).alloc (.cells #[.slice none 0 0] 44):=⟨_,rfl⟩
 have h3:Below W.heap.size W W3:=by rw [hW3];exact bAl (bAl (bAl (bRefl W) _) _) _
 have BS:Blk W3 W.heap.size 3 #[.int .i64 s]:=by rw [hW3];exact ((Blk.new _ _ _ _ rfl).alloc _).alloc _
 have BX:Blk W3 (W.heap.size+1) 25 #[.slice none 0 0]:=by rw [hW3];exact (Blk.new _ _ _ _ (by simp)).alloc _
 have BP:Blk W3 (W.heap.size+1+1) 44 #[.slice none 0 0]:=by rw [hW3];exact Blk.new _ _ _ _ (by simp)
 simp only [Tryz.ntmps20,List.size_toArray,List.length_cons,List.length_nil,Nat.reduceAdd,Nat.reduceSub,Array.replicate_succ,Array.replicate_zero,List.push_toArray,List.append_toArray,List.nil_append,List.cons_append]
 have q1:=el_public s W3
 obtain ⟨k0,_⟩:=BS.one_
 go_upto_region 1 with fail
 rw [←hW3]
 clear hW3
 cases hs:secB s
 ·have He:Hid (bareE s l=110):=by show _=_;unfold bareE;rw [hs];rfl
  have e2:pubE s=110:=by unfold pubE;rw [hs];rfl
  rw [e2] at q1
  clear hs e2
  go_wp2_with fail
  (with_reducible refine q1.mono ?_)
  rintro e w4 ⟨rfl,b4⟩
  clear q1 k0
  replace h3:=bCall h3 b4
  replace BX:=BX.below b4 BX.lt
  replace BP:=BP.below b4 BP.lt
  obtain ⟨x0,z0⟩:=BX.one_
  obtain ⟨x1,z1⟩:=BP.one_
  have e0:=((BX.set1 (.slice none 0 0)).far (p:=⟨W.heap.size+1+1,0,none⟩) (by show W.heap.size+1≠W.heap.size+1+1;omega) (.slice none 0 0)).one_.1
  have e1:=((BP.far (p:=⟨W.heap.size+1,0,none⟩) (by show W.heap.size+1+1≠W.heap.size+1;omega) (.slice none 0 0)).set1 (.slice none 0 0)).one_.1
  go_wp2_with fail
  refine ⟨.tuple #[.slice none 0 0,.slice none 0 0,.int .i64 110],by simp [results,Tryz.results20,go_sem,e0,e1],?_⟩
  refine ⟨bSet (bSet h3 (by show W.heap.size≤W.heap.size+1;omega) _) (by show W.heap.size≤W.heap.size+1+1;omega) _,fun _=>by rw [He.out],fun h=>by rw [He.out] at h;omega⟩
 ·have He:Hid (bareE s l=chkL l):=by show _=_;unfold bareE;rw [hs];rfl
  have e2:pubE s=0:=by unfold pubE;rw [if_pos hs];unfold powE;rw [if_pos valid_four]
  have Hs:=Lib.hid hs
  rw [e2] at q1
  clear hs e2
  go_wp2_with fail
  (with_reducible refine q1.mono ?_)
  rintro e w4 ⟨rfl,b4⟩
  clear q1 k0
  replace h3:=bCall h3 b4
  replace BX:=BX.below b4 BX.lt
  replace BP:=BP.below b4 BP.lt
  replace BS:=BS.below b4 BS.lt
  have q2:=equal_chk A l.length ca l w4 (hA.below h3 |>.more h3.size) hn
  by_cases h5:chkL l=0
  case neg =>
   have t5:(chkL l != 0)=true:=by rw [bne_iff_ne];exact h5
   have H5:Hid (chkL l≠0):=h5
   clear h5
   generalize chkL l=er at *
   go_wp2_with fail
   (with_reducible refine q2.mono ?_)
   rintro e w5 ⟨rfl,b5⟩
   clear q2
   replace h3:=bCall h3 b5
   replace BX:=BX.below b5 BX.lt
   replace BP:=BP.below b5 BP.lt
   obtain ⟨x0,z0⟩:=BX.one_
   obtain ⟨x1,z1⟩:=BP.one_
   have e0:=((BX.set1 (.slice none 0 0)).far (p:=⟨W.heap.size+1+1,0,none⟩) (by show W.heap.size+1≠W.heap.size+1+1;omega) (.slice none 0 0)).one_.1
   have e1:=((BP.far (p:=⟨W.heap.size+1,0,none⟩) (by show W.heap.size+1+1≠W.heap.size+1;omega) (.slice none 0 0)).set1 (.slice none 0 0)).one_.1
   go_wp2_with fail
   refine ⟨.tuple #[.slice none 0 0,.slice none 0 0,.int .i64 er],by simp [results,Tryz.results20,go_sem,e0,e1],?_⟩
   refine ⟨bSet (bSet h3 (by show W.heap.size≤W.heap.size+1;omega) _) (by show W.heap.size≤W.heap.size+1+1;omega) _,fun _=>by rw [He.out],fun h=>by rw [He.out] at h;exact absurd h H5.out⟩
  case pos =>
  have hlen:l.length≤64:=by unfold chkL at h5;split at h5 <;> omega
  have hgl : Hid (l.all Ltr.good = true) := by show _ = _; unfold chkL at h5; split at h5; · omega
                                               split at h5;· assumption
                                               omega
  rw [h5] at q2 He
  clear h5
  go_wp2_with fail
  (with_reducible refine q2.mono ?_)
  rintro e w5 ⟨rfl,b5⟩
  clear q2
  replace h3:=bCall h3 b5
  replace BX:=BX.below b5 BX.lt
  replace BP:=BP.below b5 BP.lt
  replace BS:=BS.below b5 BS.lt
  clear b4 b5
  have m1:=make_letters l.length (by omega)
  have m2:=make_proofs l.length (by omega)
  obtain ⟨x0,z0⟩:=BX.one_
  obtain ⟨x1,z1⟩:=BP.one_
  have hlt:=BP.lt
  obtain ⟨v0,v1⟩:=((BX.alloc (.cells ((List.replicate l.length zeroL).flatMap Ltr.cl).toArray 70)).alloc (.cells ((List.replicate l.length zeroL).flatMap Ltr.cl).toArray 115)).one_
  obtain ⟨v8,v9⟩:=(BX.alloc (.cells ((List.replicate l.length zeroL).flatMap Ltr.cl).toArray 70)).one_
  obtain ⟨v10,v11⟩:=(((BP.alloc (.cells ((List.replicate l.length zeroL).flatMap Ltr.cl).toArray 70)).far (p:=⟨W.heap.size+1,0,none⟩) (by show W.heap.size+1+1≠W.heap.size+1;omega) (.slice (some ⟨w5.heap.size,0,none⟩) l.length l.length)).alloc (.cells ((List.replicate l.length zeroL).flatMap Ltr.cl).toArray 115)).one_
  obtain ⟨v2,v3⟩:=((BX.alloc (.cells ((List.replicate l.length zeroL).flatMap Ltr.cl).toArray 115)).alloc (.cells ((List.replicate l.length zeroL).flatMap Ltr.cl).toArray 70)).one_
  obtain ⟨v4,v5⟩:=((BP.alloc (.cells ((List.replicate l.length zeroL).flatMap Ltr.cl).toArray 70)).alloc (.cells ((List.replicate l.length zeroL).flatMap Ltr.cl).toArray 115)).one_
  obtain ⟨v6,v7⟩:=((BP.alloc (.cells ((List.replicate l.length zeroL).flatMap Ltr.cl).toArray 115)).alloc (.cells ((List.replicate l.length zeroL).flatMap Ltr.cl).toArray 70)).one_
  go_upto_region 7 with fail
  go_cut [] from 12 to 68 (fun wc=>Two W l.length s ((List.replicate l.length zeroL).flatMap Ltr.cl).toArray ((List.replicate l.length zeroL).flatMap Ltr.cl).toArray wc)
  case first =>
   go_region
   all_goals
    go_wp2_with fail
    go_meet
    clear m1 m2 x0 z0 x1 z1 v0 v1 v2 v3 v4 v5 v6 v7 v8 v9 v10 v11
    first
     | with_reducible exact meetA h3 hlt BS BX BP
     | with_reducible exact meetB h3 hlt BS BX BP
     | with_reducible exact meetC h3 hlt BS BX BP
     | fail
  case rest =>
  clear m1 m2 x0 z0 x1 z1 v0 v1 v2 v3 v4 v5 v6 v7 v8 v9 v10 v11 BS BX BP h3 hlt
  obtain ⟨g1,g2,l1,l2,hne,h7,BS,BX,BP,BX2,BP2⟩:=hcut
  go_wp2_with fail
  refine (equal_ciphers _ _ ⟨_,_,_,rfl⟩).mono ?_
  rintro e w' ⟨rfl,rfl⟩
  go_wp2_with fail
  obtain ⟨bp,hbp⟩:∃ bp,bp=wc.heap.size:=⟨_,rfl⟩
  have BQ:=Blk.new wc 25 #[.slice A l.length ca] bp hbp
  have l3:g1<bp:=by rw [hbp];exact BX2.lt
  have l4:g2<bp:=by rw [hbp];exact BP2.lt
  replace BS:=BS.alloc (.cells #[.slice A l.length ca] 25)
  replace BX:=BX.alloc (.cells #[.slice A l.length ca] 25)
  replace BP:=BP.alloc (.cells #[.slice A l.length ca] 25)
  replace BX2:=BX2.alloc (.cells #[.slice A l.length ca] 25)
  replace BP2:=BP2.alloc (.cells #[.slice A l.length ca] 25)
  replace h7:=bAl h7 (.cells #[.slice A l.length ca] 25)
  rw [←hbp]
  clear hbp
  generalize wc.alloc (.cells #[.slice A l.length ca] 25)=w7 at *
  refine wp_rangeBA 2 (gf:=88) (lb:=#[.pointer (some ⟨bp,0,none⟩)]) rfl (enters_of Tryz.func88 (by kernel_rfl) rfl)
   (fun k=>k<W.heap.size∨k=bp) (eq_ciphers_stops bp W.heap.size l.length ca A l (fun k=>k<W.heap.size∨k=bp) (.inr rfl) w7 h7.size (fun k hk => .inl hk) BQ (hA.below h7) hn) (fun k hk=>by have h1:=BQ.lt;have h2:=h7.size;omega) (fun _=>rfl) W h7
   (fun pre=>[(W.heap.size,3,#[.int .i64 s]),(W.heap.size+1,25,#[.slice (some ⟨g1,0,none⟩) l.length l.length]),(W.heap.size+1+1,44,#[.slice (some ⟨g2,0,none⟩) l.length l.length]),(g1,70,((pre.foldl (wrZ (bareF s)) (List.replicate l.length zeroL)).flatMap Ltr.cl).toArray),(g2,115,((pre.foldl (wrZ (prfF s)) (List.replicate l.length zeroL)).flatMap Ltr.cl).toArray),(bp,25,#[.slice A l.length ca])])
   (fun _=>True) (fun _ _=>[]) (fun _ _=>False) ⟨BS,BX,BP,BX2,BP2,BQ,trivial⟩ trivial ?round ?done ?stop
  case stop=>exact fun _ _ _ _ _ _ _ _ h=>h.elim
  case round =>
   rintro _ pre z W0 hlen2 hb0 ⟨c1,c2,c3,c4,c5,c6,_⟩ _
   clear BS BX BP BX2 BP2 BQ h7
   dsimp only at c1 c2 c3 c4 c5 c6
   have hst1:=(wr_foldl (bareF s) pre).1
   have hst2:=(wr_foldl (prfF s) pre).1
   have hz1:=wrZ_cells (bareF s) (pre.foldl (wrZ (bareF s)) (List.replicate l.length zeroL)) z (by rw [hst1];exact z.hi)
   have hz2:=wrZ_cells (prfF s) (pre.foldl (wrZ (prfF s)) (List.replicate l.length zeroL)) z (by rw [hst2];exact z.hi)
   have hf1:Hid ((pre++[z]).foldl (wrZ (bareF s)) (List.replicate l.length zeroL)=wrZ (bareF s) (pre.foldl (wrZ (bareF s)) (List.replicate l.length zeroL)) z):=by show _=_;rw [List.foldl_append];rfl
   have hf2:Hid ((pre++[z]).foldl (wrZ (prfF s)) (List.replicate l.length zeroL)=wrZ (prfF s) (pre.foldl (wrZ (prfF s)) (List.replicate l.length zeroL)) z):=by show _=_;rw [List.foldl_append];rfl
   have hs1:((pre.foldl (wrZ (bareF s)) (List.replicate l.length zeroL)).flatMap Ltr.cl).toArray.size=l.length*6:=by rw [List.size_toArray,flat_len Ltr.cl_length,hst1]
   have hs2:((pre.foldl (wrZ (prfF s)) (List.replicate l.length zeroL)).flatMap Ltr.cl).toArray.size=l.length*6:=by rw [List.size_toArray,flat_len Ltr.cl_length,hst2]
   generalize pre.foldl (wrZ (bareF s)) (List.replicate l.length zeroL)=st1 at *
   generalize pre.foldl (wrZ (prfF s)) (List.replicate l.length zeroL)=st2 at *
   obtain ⟨i,k,hi⟩:=z
   obtain ⟨X,hX⟩:∃ X,Hid (l[i]?=some X):=⟨_,Lib.hid (List.getElem?_eq_getElem hi)⟩
   have hza:(⟨i,k,hi⟩:Pl l).a=X.aAt k:=by obtain ⟨_,rfl⟩:=List.getElem?_eq_some_iff.1 hX.out;rfl
   have hzb:(⟨i,k,hi⟩:Pl l).b=X.bAt k:=by obtain ⟨_,rfl⟩:=List.getElem?_eq_some_iff.1 hX.out;rfl
   rw [hza,hzb] at hz1 hz2
   dsimp only [bareF,prfF] at hz1 hz2
   have Hz1:=Lib.hid hz1
   have Hz2:=Lib.hid hz2
   clear hza hzb hz1 hz2 hst1 hst2
   rw [plE_at hX.out k hi]
   have hXv:validB (X.aAt k)=true:=(good_at (List.all_eq_true.1 hgl.out X (List.mem_of_getElem? hX.out)) k).1
   have HXv:=Lib.hid hXv
   clear hXv
   gi_wp2
   refine ⟨[(W0.heap.size,109,#[.int .i64 (i:Nat),.int .i64 (k.val:Nat)]),(W0.heap.size+1,68,#[.int .i64 (X.aAt k),.int .i64 (X.bAt k)])],KeepsOthers.below (bAl (bAl (bRefl _) _) _),Keeps.of_below (bAl (bAl (bRefl _) _) _) (fun j hj=>by have h1:=c6.lt;have h2:=hb0.size;omega),bAl (bAl hb0 _) _,⟨(Blk.new _ _ _ _ rfl).alloc _,Blk.new _ _ _ _ (by simp),(c1.alloc _).alloc _,(c2.alloc _).alloc _,(c3.alloc _).alloc _,(c4.alloc _).alloc _,(c5.alloc _).alloc _,(c6.alloc _).alloc _,trivial⟩,fun L Wc hbc hBl=>?_⟩
   have ht2:=c6.lt
   clear c1 c2 c3 c4 c5 c6
   generalize W0.heap.size=s0 at *
   obtain ⟨d1,d2,c1,c2,c3,c4,c5,c6,_⟩:=hBl
   dsimp only at c1 c2 c3 c4 c5 c6 d1 d2
   have hbz:=hbc.size
   have hk3:=k.isLt
   have i1:(0:Int)≤(i:Int):=by omega
   have i2:(i:Int)<(l.length:Int):=by omega
   have k1:(0:Int)≤(k.val:Int):=by omega
   have k2:(k.val:Int)<3:=by omega
   have q:=equal_prove s (X.aAt k) Wc Hs.out HXv.out (hG.below hbc)
   obtain ⟨x0,_⟩:=c1.one_
   obtain ⟨x1,x2⟩:=d2.two
   gi_wp2_with fail
   refine ⟨trivial,?_⟩
   (with_reducible refine (inR L q).mono ?_)
   rintro e w1 ⟨rfl,b1⟩
   clear q x0 x1 x2
   have kO:=KeepsOthers.below b1
   have kK:Keeps (fun k=>k<W.heap.size∨k=bp) Wc w1:=Keeps.of_below b1 (fun j hj=>by have:=c6.lt;omega)
   have hb1:=hbc.trans (b1.mono hbz)
   replace c1:=c1.below b1 c1.lt
   replace c2:=c2.below b1 c2.lt
   replace c3:=c3.below b1 c3.lt
   replace c4:=c4.below b1 c4.lt
   replace c5:=c5.below b1 c5.lt
   replace c6:=c6.below b1 c6.lt
   replace d1:=d1.below b1 d1.lt
   replace d2:=d2.below b1 d2.lt
   clear b1
   gi_wp2_with fail
   have b2:=bAl (bRefl w1) (.cells #[.int .i64 (provE s (X.aAt k)),.int .i64 (provS s (X.aAt k))] 110)
   have D3:=Blk.new w1 110 #[.int .i64 (provE s (X.aAt k)),.int .i64 (provS s (X.aAt k))] _ rfl
   have hs2lt:=d2.lt
   have hs2lt2:=d1.lt
   generalize w1.alloc (.cells #[.int .i64 (provE s (X.aAt k)),.int .i64 (provS s (X.aAt k))] 110)=w2 at *
   replace kO:=kO.trans (KeepsOthers.below b2)
   replace kK:=kK.trans (Keeps.of_below b2 (fun j hj=>by have:=c6.lt;have:=hb1.size;omega))
   have hb2:=hb1.trans (b2.mono hb1.size)
   replace c1:=c1.below b2 c1.lt
   replace c2:=c2.below b2 c2.lt
   replace c3:=c3.below b2 c3.lt
   replace c4:=c4.below b2 c4.lt
   replace c5:=c5.below b2 c5.lt
   replace c6:=c6.below b2 c6.lt
   replace d1:=d1.below b2 d1.lt
   replace d2:=d2.below b2 d2.lt
   clear b2 hb1
   generalize w1.heap.size=s2 at *
   have KS:Hid (∀ w',Below w2.heap.size w2 w'→_):=Lib.hid (fun w' h=>and5 (c2.below h c2.lt).one_.1 (d1.below h d1.lt).two.1 (d1.below h d1.lt).two.2 (d2.below h d2.lt).two.1 (d2.below h d2.lt).two.2)
   refine wpIn_region_maskB (f:=16) (k:=5) KS [2,1,2,1,2,1,2,1,2,1,0,0,0,0,1,0,0] ?_
   simp only [pickH,pickT]
   refine wpHeads_r ?_
   refine wpHeads_t ?_
   refine wpHeads_r ?_
   refine wpHeads_t ?_
   refine wpHeads_r ?_
   refine wpHeads_t ?_
   refine wpHeads_r ?_
   refine wpHeads_t ?_
   refine wpHeads_r ?_
   iterate 2 refine wpHeads_t ?_
   refine wpHeads_nil ?_
   iterate 5 (refine wpTailS_cons (fun K hK=>?_);go_simp;(first | (go_at_call 51;(with_reducible refine (equal_mul2 (X.bAt k) (powV (powV (X.aAt k) s) (-1)) _).mono ?_);rintro e w' ⟨rfl,rfl⟩) | (go_at_call 52;(with_reducible refine (equal_pow (powV (X.aAt k) s) (-1) _).mono ?_);rintro e w9 ⟨rfl,b9⟩;have B1:Below w2.heap.size w2 w9:=bCall (by repeat (first | exact bRefl _ | refine bAl ?_ _ | refine bDr ?_)) b9) | skip);refine mask_go hK KS ?_;clear hK K)
   refine wpTailS_zero ?_
   clear KS
   have B3:=bAl B1 (.cells #[.int .i64 (X.bAt k),.int .i64 (powV (powV (X.aAt k) s) (-1))] 3)
   generalize w9.alloc (.cells #[.int .i64 (X.bAt k),.int .i64 (powV (powV (X.aAt k) s) (-1))] 3)=w3 at *
   clear B1
   replace kO:=kO.trans (KeepsOthers.below B3)
   replace kK:=kK.trans (Keeps.of_below B3 (fun j hj=>by have:=c6.lt;have:=hb2.size;omega))
   have hb3:=hb2.trans (B3.mono hb2.size)
   replace c1:=c1.below B3 c1.lt
   replace c2:=c2.below B3 c2.lt
   replace c3:=c3.below B3 c3.lt
   replace c4:=c4.below B3 c4.lt
   replace c5:=c5.below B3 c5.lt
   replace c6:=c6.below B3 c6.lt
   replace d1:=d1.below B3 d1.lt
   replace d2:=d2.below B3 d2.lt
   replace D3:=D3.below B3 D3.lt
   clear B3 hb2
   obtain ⟨u0,hu0⟩:∃ u,(st1.flatMap Ltr.cl).toArray[i*6+k.val*2]?=some u:=⟨_,Array.getElem?_eq_getElem (by rw [hs1];omega)⟩
   obtain ⟨u1,hu1⟩:∃ u,(st1.flatMap Ltr.cl).toArray[i*6+k.val*2+1]?=some u:=⟨_,Array.getElem?_eq_getElem (by rw [hs1];omega)⟩
   have y0:=(c4.cell _).trans hu0
   have y1:=(c4.cell _).trans hu1
   have z0:=c4.frozen (i*6+k.val*2)
   have z1:=c4.frozen (i*6+k.val*2+1)
   have e4:=(c4.set_ (i*6+k.val*2) (.int .i64 (X.aAt k))).set_ (i*6+k.val*2+1) (.int .i64 (mulL [X.bAt k,powV (powV (X.aAt k) s) (-1)]))
   rw [←Hz1.out] at e4
   clear hu0 hu1
   go_wp2_with fail
   refine NoOut.normal ?_
   replace kO:=kO.trans ((KeepsOthers.setCell _ ⟨g1,i*6+k.val*2,none⟩ (.int .i64 (X.aAt k))).trans (KeepsOthers.setCell _ ⟨g1,i*6+k.val*2+1,none⟩ (.int .i64 (mulL [X.bAt k,powV (powV (X.aAt k) s) (-1)]))))
   replace kK:=(kK.setCell (p:=⟨g1,i*6+k.val*2,none⟩) (by show ¬(g1<W.heap.size∨g1=bp);omega) (.int .i64 (X.aAt k))).setCell (p:=⟨g1,i*6+k.val*2+1,none⟩) (by show ¬(g1<W.heap.size∨g1=bp);omega) (.int .i64 (mulL [X.bAt k,powV (powV (X.aAt k) s) (-1)]))
   have hb4:=bSet (bSet hb3 (p:=⟨g1,i*6+k.val*2,none⟩) (by show W.heap.size≤g1;omega) (.int .i64 (X.aAt k))) (p:=⟨g1,i*6+k.val*2+1,none⟩) (by show W.heap.size≤g1;omega) (.int .i64 (mulL [X.bAt k,powV (powV (X.aAt k) s) (-1)]))
   replace c1:=(c1.far (p:=⟨g1,i*6+k.val*2,none⟩) (by show W.heap.size≠g1;omega) (.int .i64 (X.aAt k))).far (p:=⟨g1,i*6+k.val*2+1,none⟩) (by show W.heap.size≠g1;omega) (.int .i64 (mulL [X.bAt k,powV (powV (X.aAt k) s) (-1)]))
   replace c2:=(c2.far (p:=⟨g1,i*6+k.val*2,none⟩) (by show W.heap.size+1≠g1;omega) (.int .i64 (X.aAt k))).far (p:=⟨g1,i*6+k.val*2+1,none⟩) (by show W.heap.size+1≠g1;omega) (.int .i64 (mulL [X.bAt k,powV (powV (X.aAt k) s) (-1)]))
   replace c3:=(c3.far (p:=⟨g1,i*6+k.val*2,none⟩) (by show W.heap.size+1+1≠g1;omega) (.int .i64 (X.aAt k))).far (p:=⟨g1,i*6+k.val*2+1,none⟩) (by show W.heap.size+1+1≠g1;omega) (.int .i64 (mulL [X.bAt k,powV (powV (X.aAt k) s) (-1)]))
   replace c5:=(c5.far (p:=⟨g1,i*6+k.val*2,none⟩) (by show g2≠g1;omega) (.int .i64 (X.aAt k))).far (p:=⟨g1,i*6+k.val*2+1,none⟩) (by show g2≠g1;omega) (.int .i64 (mulL [X.bAt k,powV (powV (X.aAt k) s) (-1)]))
   replace c6:=(c6.far (p:=⟨g1,i*6+k.val*2,none⟩) (by show bp≠g1;omega) (.int .i64 (X.aAt k))).far (p:=⟨g1,i*6+k.val*2+1,none⟩) (by show bp≠g1;omega) (.int .i64 (mulL [X.bAt k,powV (powV (X.aAt k) s) (-1)]))
   replace d1:=(d1.far (p:=⟨g1,i*6+k.val*2,none⟩) (by show s0≠g1;omega) (.int .i64 (X.aAt k))).far (p:=⟨g1,i*6+k.val*2+1,none⟩) (by show s0≠g1;omega) (.int .i64 (mulL [X.bAt k,powV (powV (X.aAt k) s) (-1)]))
   replace d2:=(d2.far (p:=⟨g1,i*6+k.val*2,none⟩) (by show s0+1≠g1;omega) (.int .i64 (X.aAt k))).far (p:=⟨g1,i*6+k.val*2+1,none⟩) (by show s0+1≠g1;omega) (.int .i64 (mulL [X.bAt k,powV (powV (X.aAt k) s) (-1)]))
   replace D3:=(D3.far (p:=⟨g1,i*6+k.val*2,none⟩) (by show s2≠g1;omega) (.int .i64 (X.aAt k))).far (p:=⟨g1,i*6+k.val*2+1,none⟩) (by show s2≠g1;omega) (.int .i64 (mulL [X.bAt k,powV (powV (X.aAt k) s) (-1)]))
   clear y0 y1 z0 z1 c4
   generalize (w3.setCell ⟨g1,i*6+k.val*2,none⟩ (.int .i64 (X.aAt k))).setCell ⟨g1,i*6+k.val*2+1,none⟩ (.int .i64 (mulL [X.bAt k,powV (powV (X.aAt k) s) (-1)]))=w4 at *
   have KS:Hid (∀ w',Below w4.heap.size w4 w'→_):=Lib.hid (fun w' h=>and5 (c3.below h c3.lt).one_.1 (d1.below h d1.lt).two.1 (d1.below h d1.lt).two.2 (D3.below h D3.lt).two.1 (D3.below h D3.lt).two.2)
   gi_wp2_with fail
   refine wpIn_region_maskB (f:=8) (k:=0) KS [2,1,2,1,2,2,1,1,0] ?_
   simp only [pickH,pickT]
   refine wpHeads_r ?_
   refine wpHeads_t ?_
   refine wpHeads_r ?_
   refine wpHeads_t ?_
   iterate 2 refine wpHeads_r ?_
   iterate 2 refine wpHeads_t ?_
   refine wpHeads_nil ?_
   iterate 0 (refine wpTailS_cons (fun K hK=>?_);go_simp;(first | (fail) | skip);refine mask_go hK KS ?_;clear hK K)
   refine wpTailS_zero ?_
   clear KS
   replace c1:=Blk.dr c1
   replace c2:=Blk.dr c2
   replace c3:=Blk.dr c3
   replace c5:=Blk.dr c5
   replace c6:=Blk.dr c6
   replace e4:=Blk.dr e4
   replace hb4:=bDr hb4
   replace kO:=kO.trans (KeepsOthers.drew _)
   replace kK:Keeps (fun k=>k<W.heap.size∨k=bp) Wc w4.drew:=⟨kK.size,kK.same⟩
   generalize w4.drew=w5 at *
   obtain ⟨u0,hu0⟩:∃ u,(st2.flatMap Ltr.cl).toArray[i*6+k.val*2]?=some u:=⟨_,Array.getElem?_eq_getElem (by rw [hs2];omega)⟩
   obtain ⟨u1,hu1⟩:∃ u,(st2.flatMap Ltr.cl).toArray[i*6+k.val*2+1]?=some u:=⟨_,Array.getElem?_eq_getElem (by rw [hs2];omega)⟩
   have y0:=(c5.cell _).trans hu0
   have y1:=(c5.cell _).trans hu1
   have z0:=c5.frozen (i*6+k.val*2)
   have z1:=c5.frozen (i*6+k.val*2+1)
   have e5:=(c5.set_ (i*6+k.val*2) (.int .i64 (provE s (X.aAt k)))).set_ (i*6+k.val*2+1) (.int .i64 (provS s (X.aAt k)))
   rw [←Hz2.out] at e5
   clear hu0 hu1
   go_wp2_with fail
   refine NoOut.normal ?_
   replace kO:=kO.trans ((KeepsOthers.setCell _ ⟨g2,i*6+k.val*2,none⟩ (.int .i64 (provE s (X.aAt k)))).trans (KeepsOthers.setCell _ ⟨g2,i*6+k.val*2+1,none⟩ (.int .i64 (provS s (X.aAt k)))))
   replace kK:=(kK.setCell (p:=⟨g2,i*6+k.val*2,none⟩) (by show ¬(g2<W.heap.size∨g2=bp);omega) (.int .i64 (provE s (X.aAt k)))).setCell (p:=⟨g2,i*6+k.val*2+1,none⟩) (by show ¬(g2<W.heap.size∨g2=bp);omega) (.int .i64 (provS s (X.aAt k)))
   have hb5:=bSet (bSet hb4 (p:=⟨g2,i*6+k.val*2,none⟩) (by show W.heap.size≤g2;omega) (.int .i64 (provE s (X.aAt k)))) (p:=⟨g2,i*6+k.val*2+1,none⟩) (by show W.heap.size≤g2;omega) (.int .i64 (provS s (X.aAt k)))
   replace c1:=(c1.far (p:=⟨g2,i*6+k.val*2,none⟩) (by show W.heap.size≠g2;omega) (.int .i64 (provE s (X.aAt k)))).far (p:=⟨g2,i*6+k.val*2+1,none⟩) (by show W.heap.size≠g2;omega) (.int .i64 (provS s (X.aAt k)))
   replace c2:=(c2.far (p:=⟨g2,i*6+k.val*2,none⟩) (by show W.heap.size+1≠g2;omega) (.int .i64 (provE s (X.aAt k)))).far (p:=⟨g2,i*6+k.val*2+1,none⟩) (by show W.heap.size+1≠g2;omega) (.int .i64 (provS s (X.aAt k)))
   replace c3:=(c3.far (p:=⟨g2,i*6+k.val*2,none⟩) (by show W.heap.size+1+1≠g2;omega) (.int .i64 (provE s (X.aAt k)))).far (p:=⟨g2,i*6+k.val*2+1,none⟩) (by show W.heap.size+1+1≠g2;omega) (.int .i64 (provS s (X.aAt k)))
   replace c6:=(c6.far (p:=⟨g2,i*6+k.val*2,none⟩) (by show bp≠g2;omega) (.int .i64 (provE s (X.aAt k)))).far (p:=⟨g2,i*6+k.val*2+1,none⟩) (by show bp≠g2;omega) (.int .i64 (provS s (X.aAt k)))
   replace e4:=(e4.far (p:=⟨g2,i*6+k.val*2,none⟩) (by show g1≠g2;omega) (.int .i64 (provE s (X.aAt k)))).far (p:=⟨g2,i*6+k.val*2+1,none⟩) (by show g1≠g2;omega) (.int .i64 (provS s (X.aAt k)))
   have f1:=hf1.out
   have f2:=hf2.out
   clear y0 y1 z0 z1
   gi_wp2_with fail
   refine ⟨kO,kK,hb5,⟨c1,c2,c3,?_,?_,c6,trivial⟩,trivial⟩
   ·show Blk _ _ _ (((pre++[(⟨i,k,hi⟩:Pl l)]).foldl (wrZ (bareF s)) (List.replicate l.length zeroL)).flatMap Ltr.cl).toArray
    rw [f1];exact e4
   ·show Blk _ _ _ (((pre++[(⟨i,k,hi⟩:Pl l)]).foldl (wrZ (prfF s)) (List.replicate l.length zeroL)).flatMap Ltr.cl).toArray
    rw [f2];exact e5
  case done =>
   rintro D xs Wc hD hall hbc ⟨c1,c2,c3,c4,c5,c6,_⟩ _ hd
   dsimp only at c2 c3 c4 c5
   rw [wr_done (bareF s) hall] at c4
   rw [wr_done (prfF s) hall] at c5
   clear BS BX BP BX2 BP2 BQ h7 c1 c6
   obtain ⟨x0,z0⟩:=c2.one_
   obtain ⟨x1,z1⟩:=c3.one_
   have KS:Hid (∀ w',Below Wc.heap.size Wc w'→_):=Lib.hid (fun w' h=>And.intro (c2.below h c2.lt).one_.1 (c3.below h c3.lt).one_.1)
   have KS2:Hid (∀ w':World,Below Wc.heap.size Wc w'→(w'.setCell ⟨W.heap.size+1,0,none⟩ (.slice (some ⟨g1,0,none⟩) l.length l.length)).cell? ⟨W.heap.size+1,0,none⟩=some (.slice (some ⟨g1,0,none⟩) l.length l.length)∧(w'.setCell ⟨W.heap.size+1,0,none⟩ (.slice (some ⟨g1,0,none⟩) l.length l.length)).cell? ⟨W.heap.size+1+1,0,none⟩=some (.slice (some ⟨g2,0,none⟩) l.length l.length)):=fun w' h =>
    ⟨((c2.below h c2.lt).set1 _).one_.1,((c3.below h c3.lt).far (by show W.heap.size+1+1≠W.heap.size+1;omega) _).one_.1⟩
   go_upto_region 14 with fail
   refine wp_region_mask (fun w'=>w'.cell? ⟨W.heap.size+1,0,none⟩=some (.slice (some ⟨g1,0,none⟩) l.length l.length)∧w'.cell? ⟨W.heap.size+1+1,0,none⟩=some (.slice (some ⟨g2,0,none⟩) l.length l.length)) 3 1 [2,2,0,0,0] (by kernel_rfl) (by kernel_rfl) (by first | (refine KS.out _ ?_;(repeat (first | exact bRefl _ | refine bAl ?_ _ | refine bDr ?_));done) | (refine KS2.out _ ?_;(repeat (first | exact bRefl _ | refine bAl ?_ _ | refine bDr ?_));done)) ?_
   simp only [pickH,pickT]
   iterate 2 refine wpHeads_r ?_
   refine wpHeads_nil ?_
   iterate 1 (refine wpTailS_cons (fun K hK=>?_);go_simp;(first | (fail) | skip);refine hK.out _ _ (by first | (refine KS.out _ ?_;(repeat (first | exact bRefl _ | refine bAl ?_ _ | refine bDr ?_));done) | (refine KS2.out _ ?_;(repeat (first | exact bRefl _ | refine bAl ?_ _ | refine bDr ?_));done)) (fun hHeld=>?_);clear hHeld hK K;try simp only [Act.put,List.setIfInBounds_toArray,List.set_cons_zero,List.set_cons_succ])
   refine wpTailS_zero ?_
   have q2:Blk (Wc.setCell ⟨W.heap.size+1,0,none⟩ (.slice (some ⟨g1,0,none⟩) l.length l.length)).drew (W.heap.size+1) 25 #[.slice (some ⟨g1,0,none⟩) l.length l.length]:=Blk.dr (c2.set1 _)
   have q3:Blk (Wc.setCell ⟨W.heap.size+1,0,none⟩ (.slice (some ⟨g1,0,none⟩) l.length l.length)).drew (W.heap.size+1+1) 44 #[.slice (some ⟨g2,0,none⟩) l.length l.length]:=Blk.dr (c3.far (by show W.heap.size+1+1≠W.heap.size+1;omega) _)
   have q4:Blk (Wc.setCell ⟨W.heap.size+1,0,none⟩ (.slice (some ⟨g1,0,none⟩) l.length l.length)).drew g1 70 _:=Blk.dr (c4.far (by show g1≠W.heap.size+1;omega) _)
   have q5:Blk (Wc.setCell ⟨W.heap.size+1,0,none⟩ (.slice (some ⟨g1,0,none⟩) l.length l.length)).drew g2 115 _:=Blk.dr (c5.far (by show g2≠W.heap.size+1;omega) _)
   have hdd:(Wc.setCell ⟨W.heap.size+1,0,none⟩ (.slice (some ⟨g1,0,none⟩) l.length l.length)).drew.heap[D]?=some (.deferred (some [])):=by
    show (Wc.setCell ⟨W.heap.size+1,0,none⟩ (.slice (some ⟨g1,0,none⟩) l.length l.length)).heap[D]?=_
    rw [Below.heap_setCell _ _ _ _ (fun e=>ne_mark c2 hd rfl e.symm)];exact hd
   have hb8:Below W.heap.size W (Wc.setCell ⟨W.heap.size+1,0,none⟩ (.slice (some ⟨g1,0,none⟩) l.length l.length)).drew:=bDr (bSet hbc (by show W.heap.size≤W.heap.size+1;omega) _)
   clear c2 c3 c4 c5 hd x0 x1 z0 z1 KS KS2 hbc
   generalize (Wc.setCell ⟨W.heap.size+1,0,none⟩ (.slice (some ⟨g1,0,none⟩) l.length l.length)).drew=w8 at *
   obtain ⟨x1,z1⟩:=q3.one_
   have hd9:(w8.setCell ⟨W.heap.size+1+1,0,none⟩ (.slice (some ⟨g2,0,none⟩) l.length l.length)).heap[D]?=some (.deferred (some [])):=by
    rw [Below.heap_setCell _ _ _ _ (fun e=>ne_mark q3 hdd rfl e.symm)];exact hdd
   have r2:=(q2.far (p:=⟨W.heap.size+1+1,0,none⟩) (by show W.heap.size+1≠W.heap.size+1+1;omega) (.slice (some ⟨g2,0,none⟩) l.length l.length)).put (o' := .deferred none) hd9 rfl
   have r3:=(q3.set1 (.slice (some ⟨g2,0,none⟩) l.length l.length)).put (o' := .deferred none) hd9 rfl
   have r4:=(q4.far (p:=⟨W.heap.size+1+1,0,none⟩) (by show g1≠W.heap.size+1+1;omega) (.slice (some ⟨g2,0,none⟩) l.length l.length)).put (o' := .deferred none) hd9 rfl
   have r5:=(q5.far (p:=⟨W.heap.size+1+1,0,none⟩) (by show g2≠W.heap.size+1+1;omega) (.slice (some ⟨g2,0,none⟩) l.length l.length)).put (o' := .deferred none) hd9 rfl
   go_wp2_with fail
   refine NoPanic.normal ?_
   go_wp2_with fail
   refine leavesM_mark (by simp) hd9 ?_
   have e2:=r2.one_.1
   have e3:=r3.one_.1
   refine ⟨.tuple #[.slice (some ⟨g1,0,none⟩) l.length l.length,.slice (some ⟨g2,0,none⟩) l.length l.length,.int .i64 0],by simp [results,Tryz.results20,go_sem,e2,e3],?_⟩
   exact ⟨bPut (bSet hb8 (by show W.heap.size≤W.heap.size+1+1;omega) _) hD _,fun h=>absurd He.out h,fun _=>⟨g1,g2,rfl,by omega,by omega,r4,r5⟩⟩
end Go.Proofs.YtoeobcmmafncmaaGreatDoor
namespace Go.Proofs.YtoeobcmmafncmaaGreatDoor
open Go.RowKit
def restL:List Int→List Int
 | []=>[1]
 | k::l=>mulV k ((restL l).headD 1)::restL l
theorem restL_length:∀ l:List Int,(restL l).length=l.length+1
 | []=>rfl
 | _::l=>by simp [restL,restL_length l]
theorem restL_valid:∀ {l:List Int},(∀ k∈l,validB k=true)→∀ x∈restL l,validB x=true
 | [], _, x, hx => by obtain rfl : x = 1 := by simpa [restL] using hx
                      exact valid_one
 | k::l,h,x,hx=>by
  have ih:=restL_valid (l:=l) (fun y hy=>h y (List.mem_cons_of_mem _ hy))
  have hh:validB ((restL l).headD 1)=true:=by
   have hl:=restL_length l
   cases hr:restL l with
   | nil=>rw [hr] at hl;simp at hl
   | cons a r=>exact ih a (by rw [hr];simp)
  rcases List.mem_cons.1 hx with rfl | hx
  ·exact valid_mulV (h k (by simp)) hh
  ·exact ih x hx
theorem restL_head {l:List Int} : ∃ r,(restL l)[0]?=some r∧r=(restL l).headD 1:=by
 have hl:=restL_length l
 cases hr:restL l with
 | nil=>rw [hr] at hl;simp at hl
 | cons a r=>exact ⟨a,rfl,rfl⟩
theorem made_ints (n:Nat):madeCells (Value.int .i64 0).cells (n*1)=(ints (List.replicate n 0)).toArray:=by
 apply Array.ext
 ·rw [size_madeCells];simp [ints]
 ·intro i h1 h2
  simp only [madeCells,Array.getElem_map,Array.getElem_range,ints,List.map_replicate,List.getElem_toArray,List.getElem_replicate]
  show (#[Value.int .i64 0]:Array Value)[i % 1]! = _
  rw [Nat.mod_one];rfl
theorem make_ints (n:Nat) (hn:n≤100000) (w:World):(Instr.makeSlice 22 (.int .i64 ((n:Int)+1)) (.int .i64 ((n:Int)+1))).run Tryz.prog w = .ok (.slice (some ⟨w.heap.size,0,none⟩) (n+1) (n+1)) (w.alloc (.cells (ints (List.replicate (n+1) 0)).toArray 3)):=by
 have hinf:(Tryz.prog.info? 3).map (fun i=>(i.zero,i.size,i.bytes))=some (some (.int .i64 0),1,8):=by kernel_rfl
 obtain ⟨i0,hi,hz0,hz1,hz2⟩:=info_parts hinf
 have:=run_makeSlice (w:=w) (P:=Tryz.prog) 22 3 i0 (.int .i64 0) Tryz.underlying22 hi hz0 .i64 .i64 ((n:Int)+1) ((n:Int)+1) (by omega) (Int.le_refl _) (by rw [hz1];omega) (by rw [hz2];omega) (by omega)
 have e:((n:Int)+1).toNat=n+1:=by omega
 rw [e,hz1,made_ints] at this
 exact this
theorem ints_set {l:List Int} {k:Nat} {x:Int} : (ints l).toArray.setIfInBounds k (.int .i64 x)=(ints (l.set k x)).toArray:=by
 rw [List.setIfInBounds_toArray]
 unfold ints
 rw [List.map_set]
theorem rest_set {l:List Int} {k:Nat} (hk:k<l.length):(List.replicate (k+1) 0++restL (l.drop (k+1))).set k (mulV l[k] ((restL (l.drop (k+1))).headD 1))=List.replicate k 0++restL (l.drop k):=by
 rw [List.drop_eq_getElem_cons hk,List.set_append_left _ _ (by simp)]
 show _=List.replicate k 0++(mulV l[k] _::_)
 rw [show List.replicate (k+1) (0:Int)=List.replicate k 0++[0] from List.replicate_succ',List.set_append_right _ _ (by simp)]
 simp
theorem rest_first {l:List Int} : (List.replicate (l.length+1) (0:Int)).set l.length 1=List.replicate l.length 0++restL (l.drop l.length):=by
 rw [List.drop_length,show List.replicate (l.length+1) (0:Int)=List.replicate l.length 0++[0] from List.replicate_succ',List.set_append_right _ _ (by simp)]
 simp [restL]
def RetRest (l:List Int) (w:World) (r:Ending) (w':World):Prop :=
 Below w.heap.size w w'∧((∀ k∈l,validB k=true)→∃ g,r = .returned (.tuple #[.slice (some ⟨g,0,none⟩) (l.length+1) (l.length+1),.int .i64 0])∧w.heap.size≤g∧Blk w' g 3 (ints (restL l)).toArray) ∧
 ((¬ ∀ k∈l,validB k=true)→r = .returned (.tuple #[.slice none 0 0,.int .i64 90]))
theorem ep_rest (A:Option Addr) (n c:Nat) (l:List Int) (W:World) (hA:Rd W W.heap.size 1 A n (ints l)) (hn:n≤24) :
  Calls Tryz.prog 23 #[.slice A n c] W (RetRest l W):=by
 obtain rfl:l.length=n:=by have:=hA.1;rw [ints_length,Nat.mul_one] at this;exact this
 have hmk:=make_ints l.length (by omega)
 go_enter Tryz.func23,Tryz.ntmps23
 go_upto_region 4 with fail
 have BG:=Blk.new W 3 (ints (List.replicate (l.length+1) 0)).toArray _ rfl
 have hb:=bAl (bRefl W) (.cells (ints (List.replicate (l.length+1) 0)).toArray 3)
 generalize W.alloc (.cells (ints (List.replicate (l.length+1) 0)).toArray 3)=w1 at *
 have x0:=(BG.cell l.length).trans (show (ints (List.replicate (l.length+1) 0)).toArray[l.length]?=some (.int .i64 0) by simp [ints])
 have z0:=BG.frozen l.length
 have B2:=BG.set_ l.length (.int .i64 1)
 rw [ints_set,rest_first] at B2
 have h2:=bSet hb (p:=⟨W.heap.size,l.length,none⟩) (Nat.le_refl _) (.int .i64 1)
 clear BG hmk
 go_upto_region 5 with fail
 clear x0 z0 hb
 generalize w1.setCell ⟨W.heap.size,l.length,none⟩ (.int .i64 1)=w2 at *
 go_wp2_with fail
 go_loopw [4,2,3] (fun i v2 v3 wr=>(v2 = .slice (some ⟨W.heap.size,0,none⟩) (l.length+1) (l.length+1)∧v3 = .int .i64 0)∧Below W.heap.size W wr∧((∃ k:Nat,k<l.length∧i = .int .i64 k∧Hid (∀ x∈l.drop (k+1),validB x=true)∧Blk wr W.heap.size 3 (ints (List.replicate (k+1) 0++restL (l.drop (k+1)))).toArray) ∨
  (i = .int .i64 (-1)∧Hid (∀ x∈l,validB x=true)∧Blk wr W.heap.size 3 (ints (restL l)).toArray))) (fun i _ _ _=>(intOf i+1).toNat)
 case atStart =>
  refine ⟨⟨rfl,rfl⟩,h2,?_⟩
  rcases Nat.eq_zero_or_pos l.length with h0 | h0
  ·have hl:l=[]:=List.eq_nil_of_length_eq_zero h0
   right
   refine ⟨by rw [h0];rfl,Lib.hid (by rw [hl];simp),?_⟩
   rw [h0] at B2
   simpa using B2
  ·left
   refine ⟨l.length - 1,by omega,by rw [show ((l.length:Int) - 1)=((l.length - 1:Nat):Int) from by omega],Lib.hid ?_,?_⟩
   ·rw [show l.length - 1+1=l.length from by omega,List.drop_length];simp
   ·rw [show l.length - 1+1=l.length from by omega];exact B2
 case round =>
  clear B2 h2
  obtain ⟨⟨rfl,rfl⟩,hb,(⟨k,hk,rfl,hv,BG⟩ | ⟨rfl,hv,BG⟩)⟩:=hrel
  ·obtain ⟨x,hx⟩:∃ x,Hid (l[k]?=some x):=⟨_,Lib.hid (List.getElem?_eq_getElem hk)⟩
   obtain ⟨b,off,rfl,hbb,c0⟩:=Int_at (hA.below hb) hk hx.out
   obtain ⟨r,hr1,hr2⟩:=restL_head (l:=l.drop (k+1))
   have hrv:validB r=true:=restL_valid hv.out r (List.mem_of_getElem? hr1)
   have x1:wr.cell? ⟨W.heap.size,k+1,none⟩=some (.int .i64 r):=by
    rw [BG.cell]
    show (ints _).toArray[k+1]?=_
    rw [List.getElem?_toArray]
    refine ints_at ?_
    rw [List.getElem?_append_right (by simp)]
    simpa using hr1
   have x0:wr.cell? ⟨W.heap.size,k,none⟩=some (.int .i64 0):=by
    rw [BG.cell]
    rw [List.getElem?_toArray]
    refine ints_at ?_
    rw [List.getElem?_append_left (by simp)]
    simp
   have z0:=BG.frozen k
   have hR2:=Lib.hid hr2
   have HR1:=Lib.hid hr1
   have HRV:=Lib.hid hrv
   clear hr1 hr2 hrv
   have hsz:=BG.lt
   have i0:(0:Int)≤(k:Int):=by omega
   have i1:(k:Int)<(l.length:Int):=by omega
   have i2:IntKind.i64.wrap ((k:Int)+1)=(k:Int)+1:=by rw [IntKind.wrap_i64];omega
   have hE:mulE x r=if validB x=true then 0 else 90:=by unfold mulE;rw [HRV.out];rfl
   have HE:=Lib.hid hE
   clear hE
   cases hxv:validB x
   ·have hbad:Hid (¬ ∀ k∈l,validB k=true):=fun h=>by have:=h x (List.mem_of_getElem? hx.out);rw [hxv] at this;cases this
    have q:=group_mul x r wr.drew
    rw [HE.out,hxv] at q
    clear hxv HE
    go_upto_region 8 with fail
    go_region_with ((go_at_call 55;(with_reducible refine q.mono ?_);rintro e w' ⟨rfl,rfl⟩))
    all_goals
     go_wp2_with fail
     go_ret2
     exact ⟨by first | exact bDr (bSet hb (Nat.le_refl _) _) | exact bSet (bDr hb) (Nat.le_refl _) _,fun h=>absurd h hbad.out,fun _=>rfl⟩
   ·have hv2:Hid (∀ x∈l.drop k,validB x=true):=by
     intro y hy
     obtain ⟨_,he⟩:=List.getElem?_eq_some_iff.1 hx.out
     rw [List.drop_eq_getElem_cons hk] at hy
     rcases List.mem_cons.1 hy with rfl | hy
     ·rw [he];exact hxv
     ·exact hv.out y hy
    have B2:=BG.set_ k (.int .i64 (mulV x r))
    have hset:((List.replicate (k+1) 0++restL (l.drop (k+1))).set k (mulV x r))=List.replicate k 0++restL (l.drop k):=by
     have:=rest_set hk
     obtain ⟨_,he⟩:=List.getElem?_eq_some_iff.1 hx.out
     rw [he,←hR2.out] at this
     exact this
    rw [ints_set,hset] at B2
    have q:=group_mul x r wr.drew
    rw [HE.out,hxv] at q
    clear hxv HE hset
    have hb2:=bSet hb (p:=⟨W.heap.size,k,none⟩) (Nat.le_refl _) (.int .i64 (mulV x r))
    go_upto_region 8 with fail
    go_region_with ((go_at_call 55;(with_reducible refine q.mono ?_);rintro e w' ⟨rfl,rfl⟩))
    all_goals
     go_wp2_with fail
     refine ⟨⟨⟨rfl,rfl⟩,bDr hb2,?_⟩,by simp [intOf]⟩
     rcases Nat.eq_zero_or_pos k with h0 | h0
     ·right
      subst h0
      exact ⟨rfl,Lib.hid (by have:=hv2.out;simpa using this),by have:=B2;simp at this;exact Blk.dr this⟩
     ·left
      exact ⟨k - 1,by omega,by rw [show ((k:Int) - 1)=((k - 1:Nat):Int) from by omega],Lib.hid (by rw [show k - 1+1=k from by omega];exact hv2.out),by rw [show k - 1+1=k from by omega];exact Blk.dr B2⟩
  ·go_wp2_with fail
   go_ret2
   exact ⟨hb,fun _=>⟨W.heap.size,rfl,Nat.le_refl _,BG⟩,fun h=>absurd hv.out h⟩
theorem restL_at:∀ {l:List Int} {i:Nat},i<l.length→(restL l).getD i 0=mulV (l.getD i 0) ((restL l).getD (i+1) 0)
 | [],_,h=>by simp at h
 | k::l,0,_=>by
  obtain ⟨r,h1,h2⟩:=restL_head (l:=l)
  show mulV k ((restL l).headD 1)=mulV k ((restL l).getD 0 0)
  rw [List.getD_eq_getElem?_getD,h1,←h2];rfl
 | k::l,i+1,h=>restL_at (l:=l) (i:=i) (by simpa using h)
end Go.Proofs.YtoeobcmmafncmaaGreatDoor

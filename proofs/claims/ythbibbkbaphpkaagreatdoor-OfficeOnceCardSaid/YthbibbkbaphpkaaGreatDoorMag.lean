/- elgamal: Read. -/
import Derived.Test.YthbibbkbaphpkaaGreatDoorMaf
set_option maxHeartbeats 16000000
set_option maxRecDepth 1000000
namespace Go.Proofs.YthbibbkbaphpkaaGreatDoor
open _root_.Go.Proofs.Tryz
section
open Go.RowKit
attribute [local go_sem] Oper.semAt_some
structure Wd where
 x:Int
 y:Int
 z:Int
def Wd.cells (w:Wd):Array Value:=#[.int .i64 w.x,.int .i64 w.y,.int .i64 w.z]
def Wd.agg (w:Wd):Value := .agg #[.int .i64 w.x,.int .i64 w.y,.int .i64 w.z]
def D8 (x:Ltr) (w:Wd) (k:Fin 3):Wd:=match k with
 | 0=>{ w with x:=gW x.b0 }
 | 1=>{ w with y:=gW x.b1 }
 | 2=>{ w with z:=gW x.b2 }
def kY (x:Ltr):Wd:=if x.good=true then ⟨gW x.b0,gW x.b1,gW x.b2⟩ else ⟨0,0,0⟩
theorem Ltr.cell_b (x:Ltr) (k:Fin 3):∃ b,x.cells[2*k.val+1]?=some (.int .i64 b)∧∀ w,(D8 x w k).cells=w.cells.setIfInBounds k.val (.int .i64 (gW b)):=by
 match k with
 | 0=>exact ⟨_,rfl,fun _=>rfl⟩
 | 1=>exact ⟨_,rfl,fun _=>rfl⟩
 | 2=>exact ⟨_,rfl,fun _=>rfl⟩
theorem QX {x y:Wd} {a b:Int} (h:x=y) (h':a=b):Ending.returned (.tuple #[y.agg,.int .i64 b]) = .returned (.tuple #[x.agg,.int .i64 a]):=by rw [h,h']
theorem OX {w:World} {b D:Nat} (hne:b≠D) (v0 v1 v2:Value):(((w.setCell ⟨b,0,none⟩ v0).setCell ⟨b,1,none⟩ v1).setCell ⟨b,2,none⟩ v2).heap[D]?=w.heap[D]?:=by
 iterate 3 rw [Below.heap_setCell _ _ _ _ (fun e=>hne e.symm)]
theorem EZ (x:Ltr) (W:World) :
  Calls prog 41 #[x.agg] W (Ret (.tuple #[(kY x).agg,.int .i64 x.err]) W):=by
 refine dQ func41 rfl ?_;obtain ⟨v,hv⟩:∃ v,v=kY x:=⟨_,rfl⟩
 obtain ⟨er,her⟩:∃ v,v=x.err:=⟨_,rfl⟩
 rw [←hv,←her];obtain ⟨W3,hW3⟩:∃ W3,W3=(W.alloc (.cells #[.int .i64 x.a0,.int .i64 x.b0,.int .i64 x.a1,.int .i64 x.b1,.int .i64 x.a2,.int .i64 x.b2] 63)).alloc (.cells #[.int .i64 0,.int .i64 0,.int .i64 0] 95):=⟨_,rfl⟩
 have h3:Below W.heap.size W W3:=by rw [hW3];exact bAl (bAl (aj W) _) _
 have B3:Blk W3 W.heap.size 63 #[.int .i64 x.a0,.int .i64 x.b0,.int .i64 x.a1,.int .i64 x.b1,.int .i64 x.a2,.int .i64 x.b2]:=by rw [hW3];exact (Blk.new _ _ _ _ rfl).alloc _
 have B2:Blk W3 (W.heap.size+1) 95 #[.int .i64 0,.int .i64 0,.int .i64 0]:=by rw [hW3];exact Blk.new _ _ _ _ (by simp)
 have q2:=rF x W3;unfold Ltr.agg;simp only [ntmps41,aae,aas,List.length_nil,Nat.reduceAdd,Nat.reduceSub,aaV,aaW,aaX,aaY,aaJ,aaN];cases hg:x.good
 ·have Hv:Hid (v=⟨0,0,0⟩):=by show _=_;rw [hv];exact if_neg (by simp [hg])
  have hx:x.err=100:=by unfold Ltr.err;rw [hg];rfl
  have He:Hid (er=100):=by show _=_;rw [her];exact hx
  rw [hx] at q2;clear hv her hg hx;go_upto_region 1 with fail;rw [←hW3];clear hW3;obtain ⟨k0,k1,k2,k3,k4,k5⟩:=B3.six;go_wp2_with fail;refine q2.mono ?_;rintro e w4 ⟨rfl,b4⟩;clear q2;have h4:=ah h3 b4;have C4:=B2.below b4 B2.lt;clear k0 k1 k2 k3 k4 k5;obtain ⟨m0,m1,m2⟩:=three C4;have z0:=C4.frozen 0;have z1:=C4.frozen 1;have z2:=C4.frozen 2;have C5:=((C4.set_ 0 (.int .i64 0)).set_ 1 (.int .i64 0)).set_ 2 (.int .i64 0);have h5:=zQ7 (zQ7 (zQ7 h4 (p:=⟨W.heap.size+1,0,none⟩) (by show W.heap.size≤W.heap.size+1;omega) (.int .i64 0)) (p:=⟨W.heap.size+1,1,none⟩) (by show W.heap.size≤W.heap.size+1;omega) (.int .i64 0)) (p:=⟨W.heap.size+1,2,none⟩) (by show W.heap.size≤W.heap.size+1;omega) (.int .i64 0);go_wp2_with fail;obtain ⟨e0,e1,e2⟩:=three (v0 := .int .i64 0) (v1 := .int .i64 0) (v2 := .int .i64 0) C5;exact ⟨.tuple #[.agg #[.int .i64 0,.int .i64 0,.int .i64 0],.int .i64 100],by simp [results,results41,go_sem,e0,e1,e2],QX Hv.out He.out,h5⟩
 ·have Hv:Hid (v=⟨gW x.b0,gW x.b1,gW x.b2⟩):=by show _=_;rw [hv];exact if_pos hg
  have hx:x.err=0:=by unfold Ltr.err;rw [hg];rfl
  have He:Hid (er=0):=by show _=_;rw [her];exact hx
  rw [hx] at q2;clear hv her hg hx;go_upto_region 1 with fail;rw [←hW3];clear hW3;obtain ⟨k0,k1,k2,k3,k4,k5⟩:=B3.six;go_wp2_with fail;refine q2.mono ?_;rintro e w4 ⟨rfl,b4⟩;clear q2;have h4:=ah h3 b4;have C3:=B3.below b4 B3.lt;have C4:=B2.below b4 B2.lt;clear k0 k1 k2 k3 k4 k5 B3 B2;go_wp2_with fail;refine (rE _ _).mono ?_;rintro e w' ⟨rfl,rfl⟩;go_wp2_with fail;obtain ⟨bp,hbp⟩:∃ bp,bp=w4.heap.size:=⟨_,rfl⟩
  have BP:=Blk.new w4 185 #[.pointer (some ⟨W.heap.size,0,none⟩)] bp hbp;have D3:=C3.alloc (.cells #[.pointer (some ⟨W.heap.size,0,none⟩)] 185);have D4:=C4.alloc (.cells #[.pointer (some ⟨W.heap.size,0,none⟩)] 185);have h5:=bAl h4 (.cells #[.pointer (some ⟨W.heap.size,0,none⟩)] 185);have hlt:W.heap.size+1<bp:=by rw [hbp];exact C4.lt
  rw [←hbp];clear C3 C4 h4 b4 h3 hbp;generalize w4.alloc (.cells #[.pointer (some ⟨W.heap.size,0,none⟩)] 185)=w5 at *
  refine XU 2 (gf:=197) (lb:=#[.pointer (some ⟨bp,0,none⟩)]) rfl (enters_of func197 (by kernel_rfl) rfl)
   (fun k=>k=bp) (oQ bp W.heap.size (fun k=>k=bp) rfl w5 BP) (fun k hk=>by have:=BP.lt;omega) (fun _=>rfl) W h5
   (fun pre=>[(W.heap.size,63,x.cells),(W.heap.size+1,95,(pre.foldl (D8 x) ⟨0,0,0⟩).cells),(bp,185,#[.pointer (some ⟨W.heap.size,0,none⟩)])])
   (fun pre=>True) (fun _ _=>[]) (fun _ _=>False) ⟨D3,D4,BP,trivial⟩ trivial ?round ?done ?stop
  case stop=>exact fun _ _ _ _ _ _ _ _ h=>h.elim
  case round =>
   rintro l pre k W0 hlen;clear D3 D4 BP h5;dsimp only [QL]
   gi_wp2
   refine ⟨trivial,fun L Wc hbc hBl _=>?_⟩;obtain ⟨c1,c2,c3,_⟩:=hBl;dsimp only at c1 c2 c3;obtain ⟨b,hb1,hb2⟩:=x.cell_b k;have d1:Wc.cell? ⟨W.heap.size,2*k.val+1,none⟩=some (.int .i64 b):=(c1.cell _).trans hb1;have q:=EQ b Wc;have hkv:=k.isLt;have hkv2:(k.val:Int)<3:=(by omega);have d2:=c2.frozen k.val;obtain ⟨u,hu⟩:∃ u,(pre.foldl (D8 x) ⟨0,0,0⟩).cells[k.val]?=some u:=⟨_,abd (by show k.val<3;omega)⟩
   have d3:Wc.cell? ⟨W.heap.size+1,k.val,none⟩=some u:=(c2.cell _).trans hu
   have Hb2:Hid (((pre++[k]).foldl (D8 x) ⟨0,0,0⟩).cells=(pre.foldl (D8 x) ⟨0,0,0⟩).cells.setIfInBounds k.val (.int .i64 (gW b))):=by
    show _=_;rw [List.foldl_append];exact hb2 _
   clear hb1 hb2 hu
   gi_wp2_with fail
   refine ⟨trivial,?_⟩;refine (inR L q).mono ?_;rintro e w' ⟨rfl,rfl⟩;clear q;have hc3:=c3.lt
   gi_wp2_with fail
   refine ⟨KeepsOthers.setCell _ _ _,(Keeps.refl _ _).setCell (by show ¬W.heap.size+1=bp;omega) _,zQ7 hbc (by show W.heap.size≤W.heap.size+1;omega) _,⟨c1.far (by show W.heap.size≠W.heap.size+1;omega) _,?_,c3.far (by show bp≠W.heap.size+1;omega) _,trivial⟩,trivial⟩;show Blk _ _ _ ((pre++[k]).foldl (D8 x) ⟨0,0,0⟩).cells;rw [Hb2.out];exact c2.set_ k.val _
  case done =>
   rintro D xs Wc hD rfl hbc ⟨c1,c2,_⟩ _ hd;change Blk Wc (W.heap.size+1) _ #[.int .i64 (gW x.b0),.int .i64 (gW x.b1),.int .i64 (gW x.b2)] at c2;clear c1 D3 D4 BP h5;obtain ⟨m0,m1,m2⟩:=three c2;have z0:=c2.frozen 0;have z1:=c2.frozen 1;have z2:=c2.frozen 2;have c6:=((c2.set_ 0 (.int .i64 (gW x.b0))).set_ 1 (.int .i64 (gW x.b1))).set_ 2 (.int .i64 (gW x.b2));have hb6:=zQ7 (zQ7 (zQ7 hbc (p:=⟨W.heap.size+1,0,none⟩) (by show W.heap.size≤W.heap.size+1;omega) (.int .i64 (gW x.b0))) (p:=⟨W.heap.size+1,1,none⟩) (by show W.heap.size≤W.heap.size+1;omega) (.int .i64 (gW x.b1))) (p:=⟨W.heap.size+1,2,none⟩) (by show W.heap.size≤W.heap.size+1;omega) (.int .i64 (gW x.b2));have hd6:=(OX (tN c2 hd rfl) (.int .i64 (gW x.b0)) (.int .i64 (gW x.b1)) (.int .i64 (gW x.b2))).trans hd;have c7:=c6.put (o' := .deferred none) hd6 rfl;go_wp2_with fail;refine cZ (by simp) hd6 ?_;obtain ⟨e0,e1,e2⟩:=three (v0 := .int .i64 (gW x.b0)) (v1 := .int .i64 (gW x.b1)) (v2 := .int .i64 (gW x.b2)) c7;exact ⟨.tuple #[.agg #[.int .i64 (gW x.b0),.int .i64 (gW x.b1),.int .i64 (gW x.b2)],.int .i64 0],by simp [results,results41,go_sem,e0,e1,e2],QX Hv.out He.out,uQ hb6 hD _⟩
end
section
open Go.RowKit
structure CK (w:World) (k a d p:Nat) (key x y E S:Int):Prop where
 hk:Blk w k 3 #[.int .i64 key]
 ha:Blk w a 3 #[.int .i64 x]
 hd:Blk w d 3 #[.int .i64 y]
 hp:Blk w p 196 #[.int .i64 E,.int .i64 S]
theorem CK.below {w w':World} {k a d p:Nat} {key x y E S:Int} (h:CK w k a d p key x y E S) (b:Below w.heap.size w w'):CK w' k a d p key x y E S :=
 ⟨h.hk.below b h.hk.lt,h.ha.below b h.ha.lt,h.hd.below b h.hd.lt,h.hp.below b h.hp.lt⟩
def CK.cells (w:World) (k a d p:Nat) (key x y E S:Int):Prop :=
 w.cell? ⟨k,0,none⟩=some (.int .i64 key)∧w.cell? ⟨a,0,none⟩=some (.int .i64 x)∧w.cell? ⟨d,0,none⟩=some (.int .i64 y)∧w.cell? ⟨p,0,none⟩=some (.int .i64 E)∧w.cell? ⟨p,1,none⟩=some (.int .i64 S)
theorem CK.out {w:World} {k a d p:Nat} {key x y E S:Int} (h:CK w k a d p key x y E S):w.cell? ⟨k,0,none⟩=some (.int .i64 key)∧w.cell? ⟨a,0,none⟩=some (.int .i64 x)∧w.cell? ⟨d,0,none⟩=some (.int .i64 y)∧w.cell? ⟨p,0,none⟩=some (.int .i64 E)∧w.cell? ⟨p,1,none⟩=some (.int .i64 S) :=
 ⟨h.hk.cell 0,h.ha.cell 0,h.hd.cell 0,h.hp.cell 0,h.hp.cell 1⟩
theorem V5 (W:World) (k a d p:Nat) (key x y E S:Int) (C:CK W k a d p key x y E S) :
  Calls prog 222 #[.pointer (some ⟨k,0,none⟩),.pointer (some ⟨a,0,none⟩),.pointer (some ⟨d,0,none⟩)] W (Same (.bool (aA key&&aA x&&aA y)) W):=by
 obtain ⟨c1,c2,c3,c4,c5⟩:=C.out;have q1:=bU key W;have q2:=bU x W;have q3:=bU y W;cases h1:aA key
 ·rw [h1] at q1
  clear q2 q3;go_enter func222,ntmps222;go_wp2_with fail
  with_reducible refine q1.mono ?_
  rintro e w1 ⟨rfl,rfl⟩;go_wp2_with fail;go_ret;exact ⟨rfl,rfl⟩
 ·cases h2:aA x
  ·rw [h1] at q1
   rw [h2] at q2;clear q3;go_enter func222,ntmps222;go_wp2_with fail
   with_reducible refine q1.mono ?_
   rintro e w1 ⟨rfl,rfl⟩;go_wp2_with fail
   with_reducible refine q2.mono ?_
   rintro e w1 ⟨rfl,rfl⟩;go_wp2_with fail;go_ret;exact ⟨rfl,rfl⟩
  ·rw [h1] at q1
   rw [h2] at q2;cases h3:aA y <;>
   ·rw [h3] at q3
    go_enter func222,ntmps222;go_wp2_with fail
    with_reducible refine q1.mono ?_
    rintro e w1 ⟨rfl,rfl⟩;go_wp2_with fail
    with_reducible refine q2.mono ?_
    rintro e w1 ⟨rfl,rfl⟩;go_wp2_with fail
    with_reducible refine q3.mono ?_
    rintro e w1 ⟨rfl,rfl⟩;go_wp2_with fail;go_ret;exact ⟨rfl,rfl⟩
theorem V6 (W:World) (k a d p:Nat) (key x y E S:Int) (C:CK W k a d p key x y E S) :
  Calls prog 223 #[.pointer (some ⟨p,0,none⟩)] W (Same (.bool (lZ E&&lZ S)) W):=by
 obtain ⟨c1,c2,c3,c4,c5⟩:=C.out;have q1:=uw E W;have q2:=uw S W;cases h1:lZ E
 ·rw [h1] at q1
  clear q2;go_enter func223,ntmps223;go_wp2_with fail
  with_reducible refine q1.mono ?_
  rintro e w1 ⟨rfl,rfl⟩;go_wp2_with fail;go_ret;exact ⟨rfl,rfl⟩
 ·rw [h1] at q1
  cases h2:lZ S <;>
  ·rw [h2] at q2
   go_enter func223,ntmps223;go_wp2_with fail
   with_reducible refine q1.mono ?_
   rintro e w1 ⟨rfl,rfl⟩;go_wp2_with fail
   with_reducible refine q2.mono ?_
   rintro e w1 ⟨rfl,rfl⟩;go_wp2_with fail;go_ret;exact ⟨rfl,rfl⟩
abbrev rV (key E S:Int):Int:=iF [aJ 4 S,aJ key (-E)]
abbrev sV (x y E S:Int):Int:=iF [aJ x S,aJ y (-E)]
theorem V7 (W:World) (k a d p:Nat) (key x y E S:Int) (C:CK W k a d p key x y E S) (hE:0≤E∧E<1073741789) (hS:0≤S∧S<1073741789) (i1:inI key) (i2:inI x) (i3:inI y) (hG:ShaG W) :
  Calls prog 225 #[.pointer (some ⟨p,0,none⟩),.pointer (some ⟨k,0,none⟩),.pointer (some ⟨a,0,none⟩),.pointer (some ⟨d,0,none⟩)] W (Ret (.bool (decide (E=(yV key x y (rV key E S) (sV x y E S):Nat)))) W):=by
 obtain ⟨c1,c2,c3,c4,c5⟩:=C.out;obtain ⟨hE1,hE2⟩:=hE;obtain ⟨hS1,hS2⟩:=hS;go_enter func225,ntmps225;go_wp2_with fail;have hneg:Hid (IntKind.i64.wrap (-E) = -E):=by show _=_;rw [IntKind.wrap_i64];omega
 go_region_held3 (fun w'=>w'.cell? ⟨k,0,none⟩=some (.int .i64 key)∧w'.cell? ⟨a,0,none⟩=some (.int .i64 x)∧w'.cell? ⟨d,0,none⟩=some (.int .i64 y)∧w'.cell? ⟨p,0,none⟩=some (.int .i64 E)∧w'.cell? ⟨p,1,none⟩=some (.int .i64 S))
  (first | exact (C.below (by repeat (first | exact B4 | exact B3 | exact B2 | exact B1 | exact aj _ | refine bAl ?_ _ | refine bDr ?_))).out)
  (first
  | (go_simp;go_at_call 137;(with_reducible refine (nO (aJ x S) (aJ y (-E)) _).mono ?_);rintro e w' ⟨rfl,rfl⟩)
  | (go_simp;go_at_call 137;(with_reducible refine (nO (aJ 4 S) (aJ key (-E)) _).mono ?_);rintro e w' ⟨rfl,rfl⟩)
  | (go_simp;go_at_call 138;(try rw [hneg.out]);(with_reducible refine (jL y (-E) _).mono ?_);rintro e w4 ⟨rfl,b4⟩;have B4:Below W.heap.size W w4:=ah (by repeat (first | exact B3 | refine bAl ?_ _ | refine bDr ?_)) b4)
  | (go_simp;go_at_call 138;(with_reducible refine (jL x S _).mono ?_);rintro e w3 ⟨rfl,b3⟩;have B3:Below W.heap.size W w3:=ah (by repeat (first | exact B2 | refine bAl ?_ _ | refine bDr ?_)) b3)
  | (go_simp;go_at_call 138;(try rw [hneg.out]);(with_reducible refine (jL key (-E) _).mono ?_);rintro e w2 ⟨rfl,b2⟩;have B2:Below W.heap.size W w2:=ah (by repeat (first | exact B1 | refine bAl ?_ _ | refine bDr ?_)) b2)
  | (go_simp;go_at_call 138;(with_reducible refine (jL 4 S _).mono ?_);rintro e w1 ⟨rfl,b1⟩;have B1:Below W.heap.size W w1:=ah (by repeat (first | exact aj _ | refine bAl ?_ _ | refine bDr ?_)) b1))
 have hr:=zU [aJ 4 S,aJ key (-E)];have hs:=zU [aJ x S,aJ y (-E)];have C4:=C.below (w':=w4.alloc (.cells #[.int .i64 (aJ x S),.int .i64 (aJ y (-E))] 3)) (bAl B4 _);have hb4:=bAl B4 (.cells #[.int .i64 (aJ x S),.int .i64 (aJ y (-E))] 3);generalize w4.alloc (.cells #[.int .i64 (aJ x S),.int .i64 (aJ y (-E))] 3)=w5 at *;obtain ⟨c1,c2,c3,c4,c5⟩:=C4.out;go_wp2_with fail
 go_region_held3 (fun w'=>w'.cell? ⟨k,0,none⟩=some (.int .i64 key)∧w'.cell? ⟨a,0,none⟩=some (.int .i64 x)∧w'.cell? ⟨d,0,none⟩=some (.int .i64 y)∧w'.cell? ⟨p,0,none⟩=some (.int .i64 E)∧w'.cell? ⟨p,1,none⟩=some (.int .i64 S))
  (first | exact (C4.below (by repeat (first | exact B6 | exact aj _ | refine bAl ?_ _ | refine bDr ?_))).out)
  (first
  | (go_simp;go_at_call 203;(with_reducible refine (XM key x y (rV key E S) (sV x y E S) _ i1 i2 i3 hr hs (hG.below (by repeat (first | exact hb4 | refine bAl ?_ _ | refine bDr ?_)))).mono ?_);rintro e w6 ⟨rfl,b6⟩;have B6:Below w5.heap.size w5 w6:=ah (by repeat (first | exact aj _ | refine bAl ?_ _ | refine bDr ?_)) b6))
 go_wp2_with fail;go_ret;exact ⟨rfl,ah hb4 B6⟩
def Ht (key x y:Int):Bool:=aA key&&aA x&&aA y
def E5 (E S:Int):Bool:=lZ E&&lZ S
def OY (key x y E S:Int):Bool:=decide (E=(yV key x y (rV key E S) (sV x y E S):Nat))
def qF (key x y E S:Int):Bool:=Ht key x y&&(E5 E S&&OY key x y E S)
theorem Hu {E S:Int} (h:E5 E S=true):(0≤E∧E<1073741789)∧(0≤S∧S<1073741789):=by
 unfold E5 lZ at h;simpa using h
theorem yZ (W:World) (key x y E S:Int) (i1:inI key) (i2:inI x) (i3:inI y) (hG:ShaG W) :
  Calls prog 162 #[.int .i64 key,.int .i64 x,.int .i64 y,.agg #[.int .i64 E,.int .i64 S]] W (Ret (.bool (qF key x y E S)) W):=by
 have hmf:∀ (fn:Fn) (first cap:Array Value) (w:World),(Instr.makeFunc fn first cap).run prog w = .ok (.func fn first cap) w:=fun _ _ _ _=>rfl;go_enter func162,ntmps162;go_wp2_with fail;have BF:=Blk.new ((((W.alloc (.cells #[.int .i64 key] 3)).alloc (.cells #[.int .i64 x] 3)).alloc (.cells #[.int .i64 y] 3)).alloc (.cells #[.int .i64 E,.int .i64 S] 196)) 40 #[.func (.func 222) #[] #[.pointer (some ⟨W.heap.size,0,none⟩),.pointer (some ⟨W.heap.size+1,0,none⟩),.pointer (some ⟨W.heap.size+1+1,0,none⟩)],.func (.func 223) #[] #[.pointer (some ⟨W.heap.size+1+1+1,0,none⟩)],.func (.func 225) #[] #[.pointer (some ⟨W.heap.size+1+1+1,0,none⟩),.pointer (some ⟨W.heap.size,0,none⟩),.pointer (some ⟨W.heap.size+1,0,none⟩),.pointer (some ⟨W.heap.size+1+1,0,none⟩)]] (W.heap.size+1+1+1+1) (by simp)
 have C:CK (((((W.alloc (.cells #[.int .i64 key] 3)).alloc (.cells #[.int .i64 x] 3)).alloc (.cells #[.int .i64 y] 3)).alloc (.cells #[.int .i64 E,.int .i64 S] 196)).alloc (.cells #[.func (.func 222) #[] #[.pointer (some ⟨W.heap.size,0,none⟩),.pointer (some ⟨W.heap.size+1,0,none⟩),.pointer (some ⟨W.heap.size+1+1,0,none⟩)],.func (.func 223) #[] #[.pointer (some ⟨W.heap.size+1+1+1,0,none⟩)],.func (.func 225) #[] #[.pointer (some ⟨W.heap.size+1+1+1,0,none⟩),.pointer (some ⟨W.heap.size,0,none⟩),.pointer (some ⟨W.heap.size+1,0,none⟩),.pointer (some ⟨W.heap.size+1+1,0,none⟩)]] 40)) W.heap.size (W.heap.size+1) (W.heap.size+1+1) (W.heap.size+1+1+1) key x y E S :=
  ⟨((((Blk.new W _ _ _ rfl).alloc _).alloc _).alloc _).alloc _,(((Blk.new _ _ _ _ (by simp)).alloc _).alloc _).alloc _,((Blk.new _ _ _ _ (by simp)).alloc _).alloc _,(Blk.new _ _ _ _ (by simp)).alloc _⟩
 have hb:=bAl (bAl (bAl (bAl (bAl (aj W) (.cells #[.int .i64 key] 3)) (.cells #[.int .i64 x] 3)) (.cells #[.int .i64 y] 3)) (.cells #[.int .i64 E,.int .i64 S] 196)) (.cells #[.func (.func 222) #[] #[.pointer (some ⟨W.heap.size,0,none⟩),.pointer (some ⟨W.heap.size+1,0,none⟩),.pointer (some ⟨W.heap.size+1+1,0,none⟩)],.func (.func 223) #[] #[.pointer (some ⟨W.heap.size+1+1+1,0,none⟩)],.func (.func 225) #[] #[.pointer (some ⟨W.heap.size+1+1+1,0,none⟩),.pointer (some ⟨W.heap.size,0,none⟩),.pointer (some ⟨W.heap.size+1,0,none⟩),.pointer (some ⟨W.heap.size+1+1,0,none⟩)]] 40);generalize ((((W.alloc (.cells #[.int .i64 key] 3)).alloc (.cells #[.int .i64 x] 3)).alloc (.cells #[.int .i64 y] 3)).alloc (.cells #[.int .i64 E,.int .i64 S] 196)).alloc (.cells #[.func (.func 222) #[] #[.pointer (some ⟨W.heap.size,0,none⟩),.pointer (some ⟨W.heap.size+1,0,none⟩),.pointer (some ⟨W.heap.size+1+1,0,none⟩)],.func (.func 223) #[] #[.pointer (some ⟨W.heap.size+1+1+1,0,none⟩)],.func (.func 225) #[] #[.pointer (some ⟨W.heap.size+1+1+1,0,none⟩),.pointer (some ⟨W.heap.size,0,none⟩),.pointer (some ⟨W.heap.size+1,0,none⟩),.pointer (some ⟨W.heap.size+1+1,0,none⟩)]] 40)=w1 at *;go_loopw [16] (fun i wr=>∃ k:Int,i = .int .i64 k∧Below W.heap.size W wr∧CK wr W.heap.size (W.heap.size+1) (W.heap.size+1+1) (W.heap.size+1+1+1) key x y E S∧Blk wr (W.heap.size+1+1+1+1) 40 #[.func (.func 222) #[] #[.pointer (some ⟨W.heap.size,0,none⟩),.pointer (some ⟨W.heap.size+1,0,none⟩),.pointer (some ⟨W.heap.size+1+1,0,none⟩)],.func (.func 223) #[] #[.pointer (some ⟨W.heap.size+1+1+1,0,none⟩)],.func (.func 225) #[] #[.pointer (some ⟨W.heap.size+1+1+1,0,none⟩),.pointer (some ⟨W.heap.size,0,none⟩),.pointer (some ⟨W.heap.size+1,0,none⟩),.pointer (some ⟨W.heap.size+1+1,0,none⟩)]]∧(k=0∨k=1∧Ht key x y=true∨k=2∧Ht key x y=true∧E5 E S=true∨k=3∧Ht key x y=true∧E5 E S=true∧OY key x y E S=true)) (fun i _=>3 - (intOf i).toNat)
 case atStart=>exact ⟨0,rfl,hb,C,BF,.inl rfl⟩
 case round =>
  clear hb C BF;obtain ⟨k,rfl,hb,C,BF,hk⟩:=hrel;have f0:=BF.cell 0;have f1:=BF.cell 1;have f2:=BF.cell 2;simp only [aaG,aap,aar] at f0 f1 f2;rcases hk with rfl | ⟨rfl,h1⟩ | ⟨rfl,h1,h2⟩ | ⟨rfl,h1,h2,h3⟩
  ·have q:Calls prog 222 #[.pointer (some ⟨W.heap.size,0,none⟩),.pointer (some ⟨W.heap.size+1,0,none⟩),.pointer (some ⟨W.heap.size+1+1,0,none⟩)] wr (Same (.bool (Ht key x y)) wr):=V5 wr _ _ _ _ key x y E S C
   cases hc:Ht key x y
   ·rw [hc] at q
    go_wp2_with fail;refine q.mono ?_;rintro e w6 ⟨rfl,rfl⟩;clear q;go_wp2_with fail;go_ret;exact ⟨by simp [qF, *],hb⟩
   ·rw [hc] at q
    go_wp2_with fail;refine q.mono ?_;rintro e w6 ⟨rfl,rfl⟩;clear q;go_wp2_with fail;exact ⟨⟨1,rfl,hb,C,BF,by simp [*]⟩,by simp [intOf]⟩
  ·have q:Calls prog 223 #[.pointer (some ⟨W.heap.size+1+1+1,0,none⟩)] wr (Same (.bool (E5 E S)) wr):=V6 wr _ _ _ _ key x y E S C
   cases hc:E5 E S
   ·rw [hc] at q
    go_wp2_with fail;refine q.mono ?_;rintro e w6 ⟨rfl,rfl⟩;clear q;go_wp2_with fail;go_ret;exact ⟨by simp [qF, *],hb⟩
   ·rw [hc] at q
    go_wp2_with fail;refine q.mono ?_;rintro e w6 ⟨rfl,rfl⟩;clear q;go_wp2_with fail;exact ⟨⟨2,rfl,hb,C,BF,by simp [*]⟩,by simp [intOf]⟩
  ·have q:Calls prog 225 #[.pointer (some ⟨W.heap.size+1+1+1,0,none⟩),.pointer (some ⟨W.heap.size,0,none⟩),.pointer (some ⟨W.heap.size+1,0,none⟩),.pointer (some ⟨W.heap.size+1+1,0,none⟩)] wr (Ret (.bool (OY key x y E S)) wr):=V7 wr _ _ _ _ key x y E S C (Hu h2).1 (Hu h2).2 i1 i2 i3 (hG.below hb)
   cases hc:OY key x y E S
   ·rw [hc] at q
    go_wp2_with fail;refine q.mono ?_;rintro e w6 ⟨rfl,b6⟩;clear q;go_wp2_with fail;go_ret;exact ⟨by simp [qF, *],ah hb b6⟩
   ·rw [hc] at q
    go_wp2_with fail;refine q.mono ?_;rintro e w6 ⟨rfl,b6⟩;clear q;go_wp2_with fail;exact ⟨⟨3,rfl,ah hb b6,C.below b6,BF.below b6 BF.lt,by simp [*]⟩,by simp [intOf]⟩
  ·go_wp2_with fail
   go_ret;exact ⟨by simp [qF, *],hb⟩
def Ltr.cl (x:Ltr):List Value:=[.int .i64 x.a0,.int .i64 x.b0,.int .i64 x.a1,.int .i64 x.b1,.int .i64 x.a2,.int .i64 x.b2]
theorem Ltr.cl_length (x:Ltr):x.cl.length=6:=rfl
theorem jS {w:World} {B n k:Nat} {A:Option Addr} {l:List Ltr} {x:Ltr} (h:Rd w B 6 A n (l.flatMap Ltr.cl)) (hn:k<n) (hx:l[k]?=some x) :
  ∃ b off,A=some ⟨b,off,none⟩∧b<B∧w.cell? ⟨b,off+k*6,none⟩=some (.int .i64 x.a0)∧w.cell? ⟨b,off+k*6+1,none⟩=some (.int .i64 x.b0)∧w.cell? ⟨b,off+k*6+2,none⟩=some (.int .i64 x.a1) ∧
   w.cell? ⟨b,off+k*6+3,none⟩=some (.int .i64 x.b1)∧w.cell? ⟨b,off+k*6+4,none⟩=some (.int .i64 x.a2)∧w.cell? ⟨b,off+k*6+5,none⟩=some (.int .i64 x.b2):=by
 obtain ⟨b,off,hA,hb,hc⟩:=h.2 (by omega)
 have key:∀ j u,x.cl[j]?=some u→w.cell? ⟨b,off+k*6+j,none⟩=some u:=fun j u hu=>by
  have hj:j<6:=by have:=(aag.1 hu).1;rw [Ltr.cl_length] at this;exact this
  have:=hc (k*6+j) u (by rw [oC Ltr.cl_length l k j x hx hj];exact hu)
  rw [←aay] at this;exact this
 exact ⟨b,off,hA,hb,key 0 _ rfl,key 1 _ rfl,key 2 _ rfl,key 3 _ rfl,key 4 _ rfl,key 5 _ rfl⟩
theorem iR {w:World} {B n:Nat} {A:Option Addr} {l:List Ltr} (h:Rd w B 6 A n (l.flatMap Ltr.cl)):l.length=n:=by
 have h1:=h.1
 have:∀ l:List Ltr,(l.flatMap Ltr.cl).length=l.length*6:=fun l=>by
  induction l with
  | nil=>rfl
  | cons x l ih=>rw [aaF,aan,ih,Ltr.cl_length,aas];omega
 rw [this] at h1;omega
theorem OZ (x:Ltr) (W:World):Calls prog 200 #[.agg #[.int .i64 x.a0,.int .i64 x.b0,.int .i64 x.a1,.int .i64 x.b1,.int .i64 x.a2,.int .i64 x.b2]] W (Ret (.bool !x.good) W):=by
 have q:=rF x (W.alloc (.cells #[.int .i64 x.a0,.int .i64 x.b0,.int .i64 x.a1,.int .i64 x.b1,.int .i64 x.a2,.int .i64 x.b2] 63));have hb:=bAl (aj W) (.cells #[.int .i64 x.a0,.int .i64 x.b0,.int .i64 x.a1,.int .i64 x.b1,.int .i64 x.a2,.int .i64 x.b2] 63);have he:x.err=if x.good=true then 0 else 100:=rfl
 cases hg:x.good
 all_goals
  rw [hg] at he;simp at he;rw [he] at q;clear he hg;go_enter func200,ntmps200;go_wp2_with fail;refine q.mono ?_;rintro e w1 ⟨rfl,b1⟩;clear q;go_wp2_with fail;go_ret;exact ⟨rfl,ah hb b1⟩
def E8 (l:List Ltr):Int:=match l.findIdx? (fun x=>!x.good) with | some k=>k | none => -1
theorem rP {α:Type} {p:α→Bool} {l:List α} {k:Nat} {x:α} (h:∀ y∈l.take k,p y=false) (hx:l[k]?=some x) (hp:p x=true):l.findIdx? p=some k:=by
 rw [List.findIdx?_eq_some_iff_getElem];obtain ⟨hk,hxe⟩:=aag.1 hx;refine ⟨hk,by rw [hxe];exact hp,fun j hj=>?_⟩;have hm:l[j]'(by omega)∈l.take k:=List.mem_take_iff_getElem.2 ⟨j,by omega,rfl⟩;rw [h _ hm];simp
theorem qG {α:Type} {p:α→Bool} {l:List α} (h:∀ y∈l,p y=false):l.findIdx? p=none:=by
 rw [List.findIdx?_eq_none_iff];exact h
theorem O0 (A:Option Addr) (n c:Nat) (l:List Ltr) (W:World) (hA:Rd W W.heap.size 6 A n (l.flatMap Ltr.cl)) (hn:n≤9223372036854775807) :
  Calls prog 252 #[.slice A n c,.func (.func 200) #[] #[]] W (Ret (.int .i64 (E8 l)) W):=by
 obtain rfl:l.length=n:=iR hA;go_enter func252,ntmps252;go_wp2_with fail;go_loopw [8] (fun i wr=>∃ k:Nat,k≤l.length∧i = .int .i64 k∧Below W.heap.size W wr∧Hid (∀ y∈l.take k,(!y.good)=false)) (fun i _=>l.length - (intOf i).toNat)
 case atStart=>exact ⟨0,aao _,rfl,aj _,aab (by simp)⟩
 case round =>
  obtain ⟨k,hkn,rfl,hb,hp⟩:=hrel;by_cases hlt:k<l.length
  ·obtain ⟨x,hx⟩:∃ x,Hid (l[k]?=some x):=⟨_,aab (aac hlt)⟩
   obtain ⟨b,off,rfl,hbb,c0,c1,c2,c3,c4,c5⟩:=jS (hA.below hb) hlt hx.out;have q:=OZ x wr;cases hg:(!x.good)
   ·have hp':Hid (∀ y∈l.take (k+1),(!y.good)=false):=by
     intro y hy;obtain ⟨hk,rfl⟩:=aag.1 hx.out;rw [aaB hk] at hy;rcases aaL.1 hy with hy | hy
     ·exact hp.out y hy
     ·obtain rfl:y=l[k]:=by simpa using hy
      exact hg
    rw [hg] at q;clear hg;go_wp2_with fail;refine q.mono ?_;rintro e w1 ⟨rfl,b1⟩;clear q;go_wp2_with fail;exact ⟨⟨k+1,by omega,by go_num,ah hb b1,hp'⟩,by simp [intOf];omega⟩
   ·have hres:Hid (E8 l=(k:Int)):=by
     show _=_;unfold E8;rw [rP hp.out hx.out hg]
    rw [hg] at q;clear hg;go_wp2_with fail;refine q.mono ?_;rintro e w1 ⟨rfl,b1⟩;clear q;go_wp2_with fail;go_ret;exact ⟨eX hres.out.symm,ah hb b1⟩
  ·have hres:Hid (E8 l = -1):=by
    have:=hp.out
    rw [aaH (by omega)] at this;show _=_;unfold E8;rw [qG this]
   go_wp2_with fail;go_ret;exact ⟨eX hres.out.symm,hb⟩
theorem O1 {l:List Ltr} : decide (0≤E8 l)=!(l.all Ltr.good):=by
 cases h:l.all Ltr.good
 ·obtain ⟨y,hy,hb⟩:=abn.1 h
  unfold E8;cases hf:l.findIdx? (fun x=>!x.good) with
  | none=>rw [List.findIdx?_eq_none_iff] at hf;have:=hf y hy;simp at this;exact absurd this hb
  | some k=>simp
 ·unfold E8
  rw [qG (fun y hy=>by rw [aau.1 h y hy];rfl)]
  simp
theorem Fa (A:Option Addr) (n c:Nat) (l:List Ltr) (W:World) (hA:Rd W W.heap.size 6 A n (l.flatMap Ltr.cl)) (hn:n≤9223372036854775807) :
  Calls prog 199 #[.slice A n c,.func (.func 200) #[] #[]] W (Ret (.bool !(l.all Ltr.good)) W):=by
 have q:=O0 A n c l W hA hn;have hg:=O1 (l:=l);generalize E8 l=i at *;cases hall:(!(l.all Ltr.good))
 all_goals
  rw [hall] at hg;have hg':=aab hg;have h1:=hg;simp at h1;clear hg hall;go_enter func199,ntmps199;go_wp2_with fail;refine q.mono ?_;rintro e w1 ⟨rfl,b1⟩;clear q;go_wp2_with fail;go_ret;exact ⟨by first | rfl | exact aI hg'.out,b1⟩
def jv (l:List Ltr):Int:=if 64<l.length then 2 else if l.all Ltr.good=true then 0 else 100
theorem tX (A:Option Addr) (n c:Nat) (l:List Ltr) (W:World) (hA:Rd W W.heap.size 6 A n (l.flatMap Ltr.cl)) (hn:n≤9223372036854775807) :
  Calls prog 134 #[.slice A n c] W (Ret (.int .i64 (jv l)) W):=by
 obtain rfl:l.length=n:=iR hA;by_cases h:64<l.length
 ·have hv:Hid (jv l=2):=if_pos h
  go_enter func134,ntmps134;go_wp2_with fail;go_ret;exact ⟨eX hv.out.symm,aj _⟩
 ·have q:=Fa A _ c l W hA hn
  have hv:jv l=if l.all Ltr.good=true then 0 else 100:=if_neg h
  cases hg:l.all Ltr.good
  all_goals
   rw [hg] at hv q;have Hv:=aab hv;clear hv hg;go_enter func134,ntmps134;go_wp2_with fail;refine q.mono ?_;rintro e w1 ⟨rfl,b1⟩;clear q;go_wp2_with fail;go_ret;exact ⟨eX Hv.out.symm,b1⟩
structure Pl (l:List Ltr) where
 i:Nat
 k:Fin 3
 hi:i<l.length
def Pl.ltr {l:List Ltr} (p:Pl l):Ltr:=l[p.i]'p.hi
def Ltr.aAt (x:Ltr) (k:Fin 3):Int:=match k with | 0=>x.a0 | 1=>x.a1 | 2=>x.a2
def Ltr.bAt (x:Ltr) (k:Fin 3):Int:=match k with | 0=>x.b0 | 1=>x.b1 | 2=>x.b2
def Pl.a {l:List Ltr} (p:Pl l):Int:=p.ltr.aAt p.k
def Pl.b {l:List Ltr} (p:Pl l):Int:=p.ltr.bAt p.k
def plE {l:List Ltr} (p:Pl l):Array Value:=#[.agg #[.int .i64 (p.i:Nat),.int .i64 (p.k.val:Nat)],.agg #[.int .i64 p.a,.int .i64 p.b]]
theorem uB (v:Value) (w:World) (hv:∃ A n c,v = .slice A n c) :
  Calls prog 135 #[v] w fun r w' =>
   r = .returned (.func (.func 201) #[] #[.pointer (some ⟨w.heap.size,0,none⟩)])∧w'=w.alloc (.cells #[v] 34):=by
 have hmf:∀ (fn:Fn) (first cap:Array Value) (w:World),(Instr.makeFunc fn first cap).run prog w = .ok (.func fn first cap) w:=fun _ _ _ _=>rfl;obtain ⟨A,n,c,rfl⟩:=hv;go_enter func135,ntmps135;go_wp2
 go_ret;exact ⟨rfl,rfl⟩
theorem Be {l:List Ltr} {k:Nat} {x:Ltr} (hx:l[k]?=some x) (j:Fin 3) (hk:k<l.length):plE (⟨k,j,hk⟩:Pl l)=#[.agg #[.int .i64 (k:Nat),.int .i64 (j.val:Nat)],.agg #[.int .i64 (x.aAt j),.int .i64 (x.bAt j)]]:=by
 obtain ⟨_,rfl⟩:=aag.1 hx;rfl
def Yd (l:List Ltr) (k m:Nat) (pre:List (Pl l)):Prop:=pre.length=3*k+m∧∀ p:Pl l,(p.i<k∨p.i=k∧p.k.val<m)→p∈pre
theorem Yd.start (l:List Ltr):Yd l 0 0 []:=⟨rfl,fun p h=>by omega⟩
theorem Yd.add {l:List Ltr} {k m:Nat} {pre:List (Pl l)} (h:Yd l k m pre) (p:Pl l) (hi:p.i=k) (hk:p.k.val=m):Yd l k (m+1) (pre++[p]):=by
 refine ⟨by rw [aan,h.1];simp;omega,fun q hq=>?_⟩;by_cases hm:q.i<k∨q.i=k∧q.k.val<m
 ·exact List.mem_append_left _ (h.2 q hm)
 ·refine List.mem_append_right _ ?_
  obtain ⟨i,k1,h1⟩:=p;obtain ⟨j,k2,h2⟩:=q;simp only at hi hk hq hm;have e1:j=i:=by omega
  have e2:k2=k1:=Fin.ext (by omega);subst e1;subst e2
  simp
theorem Yd.next {l:List Ltr} {k:Nat} {pre:List (Pl l)} (h:Yd l k 3 pre):Yd l (k+1) 0 pre :=
 ⟨by rw [h.1];omega,fun p hp=>h.2 p (by have:=p.k.isLt;omega)⟩
theorem zD (L bp B n c:Nat) (A:Option Addr) (l:List Ltr) (S:Nat→Prop) (hbp:S bp) (hSB:∀ k,k<B→S k) (J Jx:List (Pl l)→World→Prop) (W:World) (hJ:AbT (fun _=>False) W.heap.size J)
  (hY:∀ pre x W1,J pre W1→pre.length<3*l.length→YieldAt Fence.wide (2+1 - 1) prog L (plE x) W1 fun e W' =>
   (e = .returned (.bool true)∧J (pre++[x]) W'∧Keeps S W1 W')∨(e = .returned (.bool false)∧Jx (pre++[x]) W'))
  (hBW:B≤W.heap.size) (hB:Blk W bp 34 #[.slice A n c]) (hA:Rd W B 6 A n (l.flatMap Ltr.cl)) (hn:n≤9223372036854775807) (h0:J [] W) :
  CallsIn Fence.wide (2+1) prog 201 #[.func (.yield L) #[] #[],.pointer (some ⟨bp,0,none⟩)] W fun e W'=>(∃ v,e = .returned v) ∧
   ((∃ ys,(∀ p,p∈ys)∧J ys W')∨(∃ pre,True∧Jx pre W')):=by
 obtain rfl:l.length=n:=iR hA;refine callsIn_of_wp func201 rfl trivial ?_ rfl;simp only [ntmps201,aae,aas,List.length_nil,Nat.reduceAdd,Nat.reduceSub,aaV,aaW,aaX,aaY,aaJ,aaN];have d0:=hB.cell 0
 gi_wp2
 gi_loopw [9] (fun i wr=>∃ (k:Nat) (pre:List (Pl l)),k≤l.length∧i = .int .i64 k∧Blk wr bp 34 #[.slice A l.length c]∧Rd wr B 6 A l.length (l.flatMap Ltr.cl)∧W.heap.size≤wr.heap.size∧J pre wr∧Yd l k 0 pre) (fun i _=>l.length - (intOf i).toNat)
 case atStart=>exact ⟨0,[],aao _,rfl,hB,hA,aad _,h0,Yd.start l⟩
 case round =>
  clear hB h0 hA d0;obtain ⟨wo,rfl⟩:∃ wo:World,wo=wr:=⟨_,rfl⟩
  obtain ⟨k,pre,hkn,rfl,hB,hA,hsz,hJ1,hyd⟩:=hrel;by_cases hlt:k<l.length
  ·obtain ⟨x,hx⟩:∃ x,Hid (l[k]?=some x):=⟨_,aab (aac hlt)⟩
   obtain ⟨b,off,rfl,hbb,c0,c1,c2,c3,c4,c5⟩:=jS hA hlt hx.out;have hBs:B≤wo.heap.size:=(by omega);have hJa:=hJ.1 _ _ _ none hJ1 (World.grownBy_alloc wo (.cells #[.int .i64 x.a0,.int .i64 x.b0,.int .i64 x.a1,.int .i64 x.b1,.int .i64 x.a2,.int .i64 x.b2] 63) none) (by intro r e;cases e);have Ba:=hB.alloc (.cells #[.int .i64 x.a0,.int .i64 x.b0,.int .i64 x.a1,.int .i64 x.b1,.int .i64 x.a2,.int .i64 x.b2] 63);have Aa:=hA.below (bAl (aj wo) (.cells #[.int .i64 x.a0,.int .i64 x.b0,.int .i64 x.a1,.int .i64 x.b1,.int .i64 x.a2,.int .i64 x.b2] 63) |>.mono hBs);have hsa:W.heap.size≤(wo.alloc (.cells #[.int .i64 x.a0,.int .i64 x.b0,.int .i64 x.a1,.int .i64 x.b1,.int .i64 x.a2,.int .i64 x.b2] 63)).heap.size:=(by simp;omega);have i0:∀ w,(Instr.index 63 (.agg #[.int .i64 x.a0,.int .i64 x.b0,.int .i64 x.a1,.int .i64 x.b1,.int .i64 x.a2,.int .i64 x.b2]) (.int .i64 0)).run prog w = .ok (.agg #[.int .i64 x.a0,.int .i64 x.b0]) w:=fun _=>(by kernel_rfl);have i1:∀ w,(Instr.index 63 (.agg #[.int .i64 x.a0,.int .i64 x.b0,.int .i64 x.a1,.int .i64 x.b1,.int .i64 x.a2,.int .i64 x.b2]) (.int .i64 1)).run prog w = .ok (.agg #[.int .i64 x.a1,.int .i64 x.b1]) w:=fun _=>(by kernel_rfl);have i2:∀ w,(Instr.index 63 (.agg #[.int .i64 x.a0,.int .i64 x.b0,.int .i64 x.a1,.int .i64 x.b1,.int .i64 x.a2,.int .i64 x.b2]) (.int .i64 2)).run prog w = .ok (.agg #[.int .i64 x.a2,.int .i64 x.b2]) w:=fun _=>by kernel_rfl
   gi_wp2
   gi_loopw [15] (fun i w2=>∃ (m:Int) (pre2:List (Pl l)),i = .int .i64 m∧Blk w2 bp 34 #[.slice (some ⟨b,off,none⟩) l.length c]∧Rd w2 B 6 (some ⟨b,off,none⟩) l.length (l.flatMap Ltr.cl)∧W.heap.size≤w2.heap.size∧J pre2 w2 ∧
    (m=0∧Yd l k 0 pre2∨m=1∧Yd l k 1 pre2∨m=2∧Yd l k 2 pre2∨m=3∧Yd l k 3 pre2)) (fun i _=>3 - (intOf i).toNat)
   case atStart=>exact ⟨0,pre,rfl,Ba,Aa,hsa,hJa,.inl ⟨rfl,hyd⟩⟩
   case round =>
    clear hB hA hJ1 hyd c0 c1 c2 c3 c4 c5 Ba Aa hJa hBs hsa;obtain ⟨m,pre2,rfl,hB2,hA2,hs2,hJ2,hm⟩:=hrel;have hBs:B≤wr.heap.size:=(by omega);rcases hm with ⟨rfl,hyd2⟩ | ⟨rfl,hyd2⟩ | ⟨rfl,hyd2⟩ | ⟨rfl,hyd2⟩
    ·have hJa:=hJ.1 _ _ _ none hJ2 (World.grownBy_alloc wr (.cells #[.int .i64 x.a0,.int .i64 x.b0] 61) none) (by intro r e;cases e)
     have Ba:=hB2.alloc (.cells #[.int .i64 x.a0,.int .i64 x.b0] 61);have Aa:=hA2.below (bAl (aj wr) (.cells #[.int .i64 x.a0,.int .i64 x.b0] 61) |>.mono hBs);have hsa:W.heap.size≤(wr.alloc (.cells #[.int .i64 x.a0,.int .i64 x.b0] 61)).heap.size:=(by simp;omega);have hlen:pre2.length<3*l.length:=(by have:=hyd2.1;omega);obtain ⟨fn,tmps,assign,body,hy,hR⟩:=hY pre2 ⟨k,0,hlt⟩ _ hJa hlen;rw [Be hx.out 0 hlt] at hy;replace hy:(Instr.yield L #[.agg #[.int .i64 (k:Nat),.int .i64 0],.agg #[.int .i64 x.a0,.int .i64 x.b0]]).run prog (wr.alloc (.cells #[.int .i64 x.a0,.int .i64 x.b0] 61)) = .ok (.round L fn tmps assign body) (wr.alloc (.cells #[.int .i64 x.a0,.int .i64 x.b0] 61)):=hy
     gi_wp2
     refine hR.mono ?_;rintro e W3 (⟨rfl,hJ3,hk3⟩ | ⟨rfl,hJx3⟩)
     ·have hB3:Blk W3 bp 34 #[.slice (some ⟨b,off,none⟩) l.length c]:=(hk3.same _ hbp).trans Ba
      have hA3:=Aa.keeps hk3 hSB;have hs3:=aaj hsa hk3.size;clear hy Ba Aa
      gi_wp2
      exact ⟨⟨1,_,rfl,hB3,hA3,hs3,hJ3,.inr (.inl ⟨rfl,hyd2.add ⟨k,0,hlt⟩ rfl rfl⟩)⟩,by simp [intOf]⟩
     ·gi_wp2
      refine bodyPost_ret (results_none rfl _ _ _) rfl ?_;exact ⟨⟨_,rfl⟩,.inr ⟨_,trivial,hJx3⟩⟩
    ·have hJa:=hJ.1 _ _ _ none hJ2 (World.grownBy_alloc wr (.cells #[.int .i64 x.a1,.int .i64 x.b1] 61) none) (by intro r e;cases e)
     have Ba:=hB2.alloc (.cells #[.int .i64 x.a1,.int .i64 x.b1] 61);have Aa:=hA2.below (bAl (aj wr) (.cells #[.int .i64 x.a1,.int .i64 x.b1] 61) |>.mono hBs);have hsa:W.heap.size≤(wr.alloc (.cells #[.int .i64 x.a1,.int .i64 x.b1] 61)).heap.size:=(by simp;omega);have hlen:pre2.length<3*l.length:=(by have:=hyd2.1;omega);obtain ⟨fn,tmps,assign,body,hy,hR⟩:=hY pre2 ⟨k,1,hlt⟩ _ hJa hlen;rw [Be hx.out 1 hlt] at hy;replace hy:(Instr.yield L #[.agg #[.int .i64 (k:Nat),.int .i64 1],.agg #[.int .i64 x.a1,.int .i64 x.b1]]).run prog (wr.alloc (.cells #[.int .i64 x.a1,.int .i64 x.b1] 61)) = .ok (.round L fn tmps assign body) (wr.alloc (.cells #[.int .i64 x.a1,.int .i64 x.b1] 61)):=hy
     gi_wp2
     refine hR.mono ?_;rintro e W3 (⟨rfl,hJ3,hk3⟩ | ⟨rfl,hJx3⟩)
     ·have hB3:Blk W3 bp 34 #[.slice (some ⟨b,off,none⟩) l.length c]:=(hk3.same _ hbp).trans Ba
      have hA3:=Aa.keeps hk3 hSB;have hs3:=aaj hsa hk3.size;clear hy Ba Aa
      gi_wp2
      exact ⟨⟨2,_,rfl,hB3,hA3,hs3,hJ3,.inr (.inr (.inl ⟨rfl,hyd2.add ⟨k,1,hlt⟩ rfl rfl⟩))⟩,by simp [intOf]⟩
     ·gi_wp2
      refine bodyPost_ret (results_none rfl _ _ _) rfl ?_;exact ⟨⟨_,rfl⟩,.inr ⟨_,trivial,hJx3⟩⟩
    ·have hJa:=hJ.1 _ _ _ none hJ2 (World.grownBy_alloc wr (.cells #[.int .i64 x.a2,.int .i64 x.b2] 61) none) (by intro r e;cases e)
     have Ba:=hB2.alloc (.cells #[.int .i64 x.a2,.int .i64 x.b2] 61);have Aa:=hA2.below (bAl (aj wr) (.cells #[.int .i64 x.a2,.int .i64 x.b2] 61) |>.mono hBs);have hsa:W.heap.size≤(wr.alloc (.cells #[.int .i64 x.a2,.int .i64 x.b2] 61)).heap.size:=(by simp;omega);have hlen:pre2.length<3*l.length:=(by have:=hyd2.1;omega);obtain ⟨fn,tmps,assign,body,hy,hR⟩:=hY pre2 ⟨k,2,hlt⟩ _ hJa hlen;rw [Be hx.out 2 hlt] at hy;replace hy:(Instr.yield L #[.agg #[.int .i64 (k:Nat),.int .i64 2],.agg #[.int .i64 x.a2,.int .i64 x.b2]]).run prog (wr.alloc (.cells #[.int .i64 x.a2,.int .i64 x.b2] 61)) = .ok (.round L fn tmps assign body) (wr.alloc (.cells #[.int .i64 x.a2,.int .i64 x.b2] 61)):=hy
     gi_wp2
     refine hR.mono ?_;rintro e W3 (⟨rfl,hJ3,hk3⟩ | ⟨rfl,hJx3⟩)
     ·have hB3:Blk W3 bp 34 #[.slice (some ⟨b,off,none⟩) l.length c]:=(hk3.same _ hbp).trans Ba
      have hA3:=Aa.keeps hk3 hSB;have hs3:=aaj hsa hk3.size;clear hy Ba Aa
      gi_wp2
      exact ⟨⟨3,_,rfl,hB3,hA3,hs3,hJ3,.inr (.inr (.inr ⟨rfl,hyd2.add ⟨k,2,hlt⟩ rfl rfl⟩))⟩,by simp [intOf]⟩
     ·gi_wp2
      refine bodyPost_ret (results_none rfl _ _ _) rfl ?_;exact ⟨⟨_,rfl⟩,.inr ⟨_,trivial,hJx3⟩⟩
    ·clear i0 i1 i2
     gi_wp2
     exact ⟨⟨k+1,pre2,by omega,by go_num,hB2,hA2,hs2,hJ2,hyd2.next⟩,by simp [intOf];omega⟩
  ·gi_wp2
   go_end0;refine ⟨⟨_,rfl⟩,.inl ⟨_,fun p=>hyd.2 p (by have:=p.hi;omega),hJ1⟩⟩
theorem pW (bp B n c:Nat) (A:Option Addr) (l:List Ltr) (S:Nat→Prop) (hbp:S bp) (w:World) (hBw:B≤w.heap.size) (hSB:∀ k,k<B→S k) (hB:Blk w bp 34 #[.slice A n c]) (hA:Rd w B 6 A n (l.flatMap Ltr.cl)) (hn:n≤9223372036854775807) :
  GX (fun _=>False) (2+1) prog 201 #[.pointer (some ⟨bp,0,none⟩)] plE (Keeps S) (fun ys=>∀ p:Pl l,p∈ys) (fun _=>True) (3*l.length) w:=by
 intro L J Jx W hW hJ _ hY h0;exact zD L bp B n c A l S hbp hSB J Jx W hJ hY (aaj hBw hW.size) (hB.below hW hB.lt) (hA.below (hW.mono hBw)) hn h0
theorem MP {w:World} {B n i:Nat} {A:Option Addr} {l:List Ltr} {x:Ltr} (h:Rd w B 6 A n (l.flatMap Ltr.cl)) (hn:i<n) (hx:l[i]?=some x) (k:Fin 3) :
  ∃ b off,A=some ⟨b,off,none⟩∧b<B∧w.cell? ⟨b,off+i*6+k.val*2,none⟩=some (.int .i64 (x.aAt k))∧w.cell? ⟨b,off+i*6+k.val*2+1,none⟩=some (.int .i64 (x.bAt k)):=by
 obtain ⟨b,off,hA,hb,c0,c1,c2,c3,c4,c5⟩:=jS h hn hx;refine ⟨b,off,hA,hb,?_⟩
 match k with
 | 0=>exact ⟨c0,c1⟩
 | 1=>exact ⟨c2,c3⟩
 | 2=>exact ⟨c4,c5⟩
theorem kG {x:Ltr} (h:x.good=true) (k:Fin 3):aA (x.aAt k)=true∧aA (x.bAt k)=true:=by
 unfold Ltr.good at h;simp only [aal] at h;obtain ⟨⟨⟨h1,h2⟩,h3,h4⟩,h5,h6⟩:=h
 match k with
 | 0=>exact ⟨h1,h2⟩
 | 1=>exact ⟨h3,h4⟩
 | 2=>exact ⟨h5,h6⟩
attribute [local go_sem] Oper.semAt_some
theorem Blk.one_ {w:World} {b:Nat} {t:TypeId} {v:Value} (h:Blk w b t #[v]):w.cell? ⟨b,0,none⟩=some v∧w.frozen? ⟨b,0,none⟩=false:=⟨h.cell 0,h.frozen 0⟩
theorem Blk.two {w:World} {b:Nat} {t:TypeId} {v u:Value} (h:Blk w b t #[v,u]):w.cell? ⟨b,0,none⟩=some v∧w.cell? ⟨b,1,none⟩=some u:=⟨h.cell 0,h.cell 1⟩
theorem V8 {a b c d e:Prop} (h1:a) (h2:b) (h3:c) (h4:d) (h5:e):a∧b∧c∧d∧e:=⟨h1,h2,h3,h4,h5⟩
theorem Xc {a b c d e f g h i j:Prop} (h1:a) (h2:b) (h3:c) (h4:d) (h5:e) (h6:f) (h7:g) (h8:h) (h9:i) (h10:j):a∧b∧c∧d∧e∧f∧g∧h∧i∧j:=⟨h1,h2,h3,h4,h5,h6,h7,h8,h9,h10⟩
theorem Blk.set1 {w:World} {b:Nat} {t:TypeId} {v:Value} (h:Blk w b t #[v]) (u:Value):Blk (w.setCell ⟨b,0,none⟩ u) b t #[u]:=by simpa using h.set_ 0 u
def rQ (key:Int) (x y p:Ltr) (k:Fin 3):Bool:=decide (y.aAt k=x.aAt k)&&qF key (x.aAt k) (iF [x.bAt k,aJ (y.bAt k) (-1)]) (p.aAt k) (p.bAt k)
def Fb (key:Int) (x y p:Ltr):Bool:=rQ key x y p 0&&rQ key x y p 1&&rQ key x y p 2
def mV (key:Int):List Ltr→List Ltr→List Ltr→Bool
 | x::l,y::m,p::q=>Fb key x y p&&mV key l m q
 | _,_,_=>true
def Bf (key:Int) {l:List Ltr} (x p:List Ltr) (z:Pl l):Bool:=rQ key z.ltr (x.getD z.i aB) (p.getD z.i aB) z.k
theorem rU {key:Int} : ∀ {l x p:List Ltr},l.length=x.length→l.length=p.length→∀ z:Pl l,Bf key x p z=false→mV key l x p=false
 | [],_,_,_,_,z,_=>absurd z.hi (by simp)
 | X::l,[],_,h,_,_,_=>by simp at h
 | X::l,_::_,[],_,h,_,_=>by simp at h
 | X::l,Y::x,Z::p,h1,h2,⟨0,k,hi⟩,hz=>by
  have hz':rQ key X Y Z k=false:=hz;unfold mV Fb
  match k,hz' with
  | 0,e=>rw [e];rfl
  | 1,e=>rw [e];simp
  | 2,e=>rw [e];simp
 | X::l,Y::x,Z::p,h1,h2,⟨i+1,k,hi⟩,hz=>by
  have:=rU (key:=key) (l:=l) (x:=x) (p:=p) (by simpa using h1) (by simpa using h2) ⟨i,k,by simpa using hi⟩ hz
  unfold mV;rw [this];simp
theorem uT {key:Int} : ∀ {l x p:List Ltr},l.length=x.length→l.length=p.length→(∀ z:Pl l,Bf key x p z=true)→mV key l x p=true
 | [],_,_,_,_,_=>by unfold mV;rfl
 | X::l,[],_,h,_,_=>by simp at h
 | X::l,_::_,[],_,h,_=>by simp at h
 | X::l,Y::x,Z::p,h1,h2,hz=>by
  have:=uT (key:=key) (l:=l) (x:=x) (p:=p) (by simpa using h1) (by simpa using h2) (fun z=>hz ⟨z.i+1,z.k,by have:=z.hi;simp;omega⟩)
  have h0:∀ k,rQ key X Y Z k=true:=fun k=>hz ⟨0,k,by simp⟩;unfold mV Fb;rw [this,h0,h0,h0];rfl
def df (key:Int) (l m q:List Ltr):Bool:=aA key&&(decide (l.length=m.length)&&(decide (l.length=q.length)&&(decide (jv l=0)&&(decide (jv m=0)&&mV key l m q))))
theorem zF (key:Int) (A B C:Option Addr) (n m q ca cb cc:Nat) (l x p:List Ltr) (W:World) (hA:Rd W W.heap.size 6 A n (l.flatMap Ltr.cl)) (hB:Rd W W.heap.size 6 B m (x.flatMap Ltr.cl)) (hC:Rd W W.heap.size 6 C q (p.flatMap Ltr.cl))
  (hn:n≤9223372036854775807) (hm:m≤9223372036854775807) (hq:q≤9223372036854775807) (hG:ShaG W) :
  Calls prog 84 #[.int .i64 key,.slice A n ca,.slice B m cb,.slice C q cc] W (Ret (.bool (df key l x p)) W):=by
 obtain rfl:l.length=n:=iR hA;obtain rfl:x.length=m:=iR hB;obtain rfl:p.length=q:=iR hC;refine dQ func84 rfl ?_;obtain ⟨v,hv⟩:∃ v,v=df key l x p:=⟨_,rfl⟩
 rw [←hv];obtain ⟨W3,hW3⟩:∃ W3,W3=(((W.alloc (.cells #[.int .i64 key] 3)).alloc (.cells #[.slice B x.length cb] 34)).alloc (.cells #[.slice C p.length cc] 45)).alloc (.cells #[.bool false] 4):=⟨_,rfl⟩
 have h3:Below W.heap.size W W3:=by rw [hW3];exact bAl (bAl (bAl (bAl (aj W) _) _) _) _
 have BK:Blk W3 W.heap.size 3 #[.int .i64 key]:=by rw [hW3];exact (((Blk.new _ _ _ _ rfl).alloc _).alloc _).alloc _
 have BX:Blk W3 (W.heap.size+1) 34 #[.slice B x.length cb]:=by rw [hW3];exact ((Blk.new _ _ _ _ (by simp)).alloc _).alloc _
 have BQ:Blk W3 (W.heap.size+1+1) 45 #[.slice C p.length cc]:=by rw [hW3];exact (Blk.new _ _ _ _ (by simp)).alloc _
 have BV:Blk W3 (W.heap.size+1+1+1) 4 #[.bool false]:=by rw [hW3];exact Blk.new _ _ _ _ (by simp)
 simp only [ntmps84,aae,aas,List.length_nil,Nat.reduceAdd,Nat.reduceSub,aaV,aaW,aaX,aaY,aaJ,aaN];have q1:=bU key W3;obtain ⟨k0,_⟩:=BK.one_;obtain ⟨k1,_⟩:=BX.one_;obtain ⟨k2,_⟩:=BQ.one_;cases h1:aA key
 ·have Hv:Hid (v=false):=by show _=_;rw [hv];unfold df;rw [h1];rfl
  rw [h1] at q1;clear hv h1;go_upto_region 1 with fail;rw [←hW3];clear hW3;go_wp2_with fail;refine q1.mono ?_;rintro e w4 ⟨rfl,rfl⟩;clear q1;obtain ⟨k3,z3⟩:=BV.one_;have e0:=(BV.set1 (.bool false)).one_.1;go_wp2_with fail;exact ⟨.bool false,by simp [results,results84,go_sem,e0],aI Hv.out.symm,zQ7 h3 (by show W.heap.size≤W.heap.size+1+1+1;omega) _⟩
 rw [h1] at q1;by_cases h2:l.length=x.length
 case neg =>
  have Hv:Hid (v=false):=by show _=_;rw [hv];unfold df;rw [decide_eq_false h2];simp
  have t2:((l.length:Int) != (x.length:Int))=true:=by rw [bne_iff_ne];omega
  clear hv h1 h2;go_upto_region 1 with fail;rw [←hW3];clear hW3;go_wp2_with fail;refine q1.mono ?_;rintro e w4 ⟨rfl,rfl⟩;clear q1;obtain ⟨k3,z3⟩:=BV.one_;have e0:=(BV.set1 (.bool false)).one_.1;go_wp2_with fail;exact ⟨.bool false,by simp [results,results84,go_sem,e0],aI Hv.out.symm,zQ7 h3 (by show W.heap.size≤W.heap.size+1+1+1;omega) _⟩
 have t2:((l.length:Int) != (x.length:Int))=false:=by rw [h2];simp
 have H2:=aab h2;by_cases h4:l.length=p.length
 case neg =>
  have Hv:Hid (v=false):=by show _=_;rw [hv];unfold df;rw [decide_eq_false h4];simp
  have t4:((l.length:Int) != (p.length:Int))=true:=by rw [bne_iff_ne];omega
  clear hv h1 h2 h4;go_upto_region 1 with fail;rw [←hW3];clear hW3;go_wp2_with fail;refine q1.mono ?_;rintro e w4 ⟨rfl,rfl⟩;clear q1;obtain ⟨k3,z3⟩:=BV.one_;have e0:=(BV.set1 (.bool false)).one_.1;go_wp2_with fail;exact ⟨.bool false,by simp [results,results84,go_sem,e0],aI Hv.out.symm,zQ7 h3 (by show W.heap.size≤W.heap.size+1+1+1;omega) _⟩
 have t4:((l.length:Int) != (p.length:Int))=false:=by rw [h4];simp
 have H4:=aab h4;clear h2 h4;have q2:=tX A l.length ca l W3 (hA.below h3 |>.more h3.size) hn;by_cases h5:jv l=0
 case neg =>
  have Hv:Hid (v=false):=by show _=_;rw [hv];unfold df;rw [decide_eq_false h5];simp
  have t5:(jv l != 0)=true:=by rw [bne_iff_ne];exact h5
  clear hv h1 h5;go_upto_region 1 with fail;rw [←hW3];clear hW3;go_wp2_with fail;refine q1.mono ?_;rintro e w4 ⟨rfl,rfl⟩;clear q1;go_wp2_with fail;refine q2.mono ?_;rintro e w5 ⟨rfl,b5⟩;clear q2;replace h3:=ah h3 b5;replace BV:=BV.below b5 BV.lt;clear k0 k1 k2;obtain ⟨k3,z3⟩:=BV.one_;have e0:=(BV.set1 (.bool false)).one_.1;go_wp2_with fail;exact ⟨.bool false,by simp [results,results84,go_sem,e0],aI Hv.out.symm,zQ7 h3 (by show W.heap.size≤W.heap.size+1+1+1;omega) _⟩
 rw [h5] at q2;by_cases h6:jv x=0
 case neg =>
  have Hv:Hid (v=false):=by show _=_;rw [hv];unfold df;rw [decide_eq_false h6];simp
  have t6:(jv x != 0)=true:=by rw [bne_iff_ne];exact h6
  clear hv h1 h6;go_upto_region 1 with fail;rw [←hW3];clear hW3;go_wp2_with fail;refine q1.mono ?_;rintro e w4 ⟨rfl,rfl⟩;clear q1;go_wp2_with fail;refine q2.mono ?_;rintro e w5 ⟨rfl,b5⟩;clear q2;replace h3:=ah h3 b5;replace BV:=BV.below b5 BV.lt;replace BX:=BX.below b5 BX.lt;clear k0 k1 k2;obtain ⟨k1,_⟩:=BX.one_;have q3:=tX B x.length cb x w5 (hB.below h3 |>.more h3.size) hm;go_wp2_with fail;refine q3.mono ?_;rintro e w6 ⟨rfl,b6⟩;clear q3;replace h3:=ah h3 b6;replace BV:=BV.below b6 BV.lt;clear k1;obtain ⟨k3,z3⟩:=BV.one_;have e0:=(BV.set1 (.bool false)).one_.1;go_wp2_with fail;exact ⟨.bool false,by simp [results,results84,go_sem,e0],aI Hv.out.symm,zQ7 h3 (by show W.heap.size≤W.heap.size+1+1+1;omega) _⟩
 have Hv:Hid (v=mV key l x p):=by show _=_;rw [hv];unfold df;rw [h1,h5,h6,decide_eq_true H2.out,decide_eq_true H4.out];rfl
 have hgl : Hid (l.all Ltr.good = true) := by show _ = _; unfold jv at h5; split at h5; · omega
                                              split at h5;· assumption
                                              omega
 have hky:=iy h1;clear hv h1 h5;go_upto_region 1 with fail;rw [←hW3];clear hW3;go_wp2_with fail;refine q1.mono ?_;rintro e w4 ⟨rfl,rfl⟩;clear q1;go_wp2_with fail;refine q2.mono ?_;rintro e w5 ⟨rfl,b5⟩;clear q2;replace h3:=ah h3 b5;replace BV:=BV.below b5 BV.lt;replace BK:=BK.below b5 BK.lt;replace BQ:=BQ.below b5 BQ.lt;replace BX:=BX.below b5 BX.lt;clear k0 k1 k2;obtain ⟨k1,_⟩:=BX.one_;have q3:=tX B x.length cb x w5 (hB.below h3 |>.more h3.size) hm;rw [h6] at q3;go_wp2_with fail;refine q3.mono ?_;rintro e w6 ⟨rfl,b6⟩;clear q3;replace h3:=ah h3 b6;replace BV:=BV.below b6 BV.lt;replace BX:=BX.below b6 BX.lt;replace BK:=BK.below b6 BK.lt;replace BQ:=BQ.below b6 BQ.lt;clear k1 h6;go_wp2_with fail;refine (uB _ _ ⟨_,_,_,rfl⟩).mono ?_;rintro e w' ⟨rfl,rfl⟩;go_wp2_with fail;obtain ⟨bp,hbp⟩:∃ bp,bp=w6.heap.size:=⟨_,rfl⟩
 have BP:=Blk.new w6 34 #[.slice A l.length ca] bp hbp;replace BV:=BV.alloc (.cells #[.slice A l.length ca] 34);replace BX:=BX.alloc (.cells #[.slice A l.length ca] 34);replace BK:=BK.alloc (.cells #[.slice A l.length ca] 34);replace BQ:=BQ.alloc (.cells #[.slice A l.length ca] 34);have h7:=bAl h3 (.cells #[.slice A l.length ca] 34);have hlt:W.heap.size+1+1+1<bp∨bp=bp := .inr rfl;rw [←hbp];clear h3 b5 b6 hlt hbp t2 t4;generalize w6.alloc (.cells #[.slice A l.length ca] 34)=w7 at *
 refine AZ 2 (gf:=201) (lb:=#[.pointer (some ⟨bp,0,none⟩)]) rfl (enters_of func201 (by kernel_rfl) rfl)
  (fun k=>k<W.heap.size∨k=bp) (pW bp W.heap.size l.length ca A l (fun k=>k<W.heap.size∨k=bp) (.inr rfl) w7 h7.size (fun k hk => .inl hk) BP (hA.below h7) hn) (fun k hk=>by have h1:=BP.lt;have h2:=h7.size;omega) (fun _=>rfl) W h7
  (fun pre=>[(W.heap.size,3,#[.int .i64 key]),(W.heap.size+1,34,#[.slice B x.length cb]),(W.heap.size+1+1,45,#[.slice C p.length cc]),(W.heap.size+1+1+1,4,#[.bool false]),(bp,34,#[.slice A l.length ca])])
  (fun pre=>Hid (∀ z∈pre,Bf key x p z=true)) (fun _ _=>[(W.heap.size+1+1+1,4,#[.bool false])]) (fun c _=>c = .ret∧Hid (v=false)) ⟨BK,BX,BQ,BV,BP,trivial⟩ (aab (by simp)) ?round ?done ?stop
 case round =>
  rintro _ pre z W0 hlen hb0 ⟨c1,c2,c3,c4,c5,_⟩ hR;clear BK BX BQ BV BP h7;dsimp only at c1 c2 c3 c4 c5;obtain ⟨i,k,hi⟩:=z;obtain ⟨X,hX⟩:∃ X,Hid (l[i]?=some X):=⟨_,aab (aac hi)⟩
  rw [Be hX.out k hi]
  gi_wp2
  refine ⟨[(W0.heap.size,195,#[.int .i64 (i:Nat),.int .i64 (k.val:Nat)]),(W0.heap.size+1,61,#[.int .i64 (X.aAt k),.int .i64 (X.bAt k)])],KeepsOthers.below (bAl (bAl (aj _) _) _),Keeps.of_below (bAl (bAl (aj _) _) _) (fun j hj=>by have h1:=c5.lt;have h2:=hb0.size;omega),bAl (bAl hb0 _) _,⟨(Blk.new _ _ _ _ rfl).alloc _,Blk.new _ _ _ _ (by simp),(c1.alloc _).alloc _,(c2.alloc _).alloc _,(c3.alloc _).alloc _,(c4.alloc _).alloc _,(c5.alloc _).alloc _,trivial⟩,fun L Wc hbc hBl=>?_⟩;have ht1:=c4.lt;have ht2:=c5.lt;clear c1 c2 c3 c4 c5;generalize W0.heap.size=s0 at *;obtain ⟨d1,d2,c1,c2,c3,c4,c5,_⟩:=hBl;dsimp only at c1 c2 c3 c4 c5 d1 d2;have hi':i<x.length:=by have:=H2.out;omega
  have hi2:i<p.length:=by have:=H4.out;omega
  obtain ⟨Y,hY⟩:∃ Y,Hid (x[i]?=some Y):=⟨_,aab (aac hi')⟩
  obtain ⟨Z,hZ⟩:∃ Z,Hid (p[i]?=some Z):=⟨_,aab (aac hi2)⟩
  obtain ⟨b,off,rfl,hbb,x0,x1⟩:=MP (hB.below hbc) hi' hY.out k;obtain ⟨b2,off2,rfl,hbb2,y0,y1⟩:=MP (hC.below hbc) hi2 hZ.out k;have hbz:=hbc.size;have i1:(0:Int)≤(i:Int):=by omega
  have i2:(i:Int)<(x.length:Int):=by omega
  have i3:(i:Int)<(p.length:Int):=by omega
  have k1:(0:Int)≤(k.val:Int):=by omega
  have k2:(k.val:Int)<3:=by have:=k.isLt;omega
  have KS:Hid (∀ w',Below Wc.heap.size Wc w'→_):=aab (fun w' h=>V8 (c2.below h c2.lt).one_.1 (d1.below h d1.lt).two.1 (d1.below h d1.lt).two.2 ((h.cell (p:=⟨b,off+i*6+k.val*2,none⟩) (by show b<_;omega)).trans x0) ((h.cell (p:=⟨b,off+i*6+k.val*2+1,none⟩) (by show b<_;omega)).trans x1))
  gi_wp2_with fail
  refine fD (f:=9) (k:=1) KS [2,1,2,1,2,1,1,2,0,0] ?_;simp only [ku,jf];refine aT ?_;refine aU ?_;refine aT ?_;refine aU ?_;refine aT ?_
  iterate 2 refine aU ?_
  refine aT ?_;refine dK ?_
  iterate 1 (refine dn (fun K hK=>?_);go_simp;(first | (fail) | skip);refine lS hK KS ?_;clear hK K)
  refine dA ?_;go_wp2_with fail;refine NoOut.normal ?_;have D3:Blk (Wc.alloc (.cells #[.int .i64 (Y.aAt k),.int .i64 (Y.bAt k)] 61)).drew Wc.heap.size 61 #[.int .i64 (Y.aAt k),.int .i64 (Y.bAt k)]:=Blk.new Wc _ _ _ rfl;have b8:Below Wc.heap.size Wc (Wc.alloc (.cells #[.int .i64 (Y.aAt k),.int .i64 (Y.bAt k)] 61)).drew:=bDr (bAl (aj _) _);generalize (Wc.alloc (.cells #[.int .i64 (Y.aAt k),.int .i64 (Y.bAt k)] 61)).drew=w8 at *;have e1:=c1.below b8 c1.lt;have e2:=c2.below b8 c2.lt;have e3:=c3.below b8 c3.lt;have e4:=c4.below b8 c4.lt;have e5:=c5.below b8 c5.lt;have e6:=d1.below b8 d1.lt;have e7:=d2.below b8 d2.lt;replace y0:=(b8.cell (p:=⟨b2,off2+i*6+k.val*2,none⟩) (by show b2<_;omega)).trans y0;replace y1:=(b8.cell (p:=⟨b2,off2+i*6+k.val*2+1,none⟩) (by show b2<_;omega)).trans y1;have hb8:=hbc.trans (b8.mono hbz);have kO:=KeepsOthers.below b8;have kK:Keeps (fun k=>k<W.heap.size∨k=bp) Wc w8:=Keeps.of_below b8 (fun j hj=>by have:=c5.lt;omega);clear x0 x1 KS c1 c2 c3 d1 d2;generalize Wc.heap.size=s1 at *;have hz8:=hb8.size;have KS:Hid (∀ w',Below w8.heap.size w8 w'→_):=aab (fun w' h=>Xc (D3.below h D3.lt).two.1 (D3.below h D3.lt).two.2 (e7.below h e7.lt).two.1 (e7.below h e7.lt).two.2 (e1.below h e1.lt).one_.1 (e3.below h e3.lt).one_.1 (e6.below h e6.lt).two.1 (e6.below h e6.lt).two.2 ((h.cell (p:=⟨b2,off2+i*6+k.val*2,none⟩) (by show b2<_;omega)).trans y0) ((h.cell (p:=⟨b2,off2+i*6+k.val*2+1,none⟩) (by show b2<_;omega)).trans y1))
  have HXY:Hid (Bf key x p ⟨i,k,hi⟩=(decide (Y.aAt k=X.aAt k)&&qF key (X.aAt k) (iF [X.bAt k,aJ (Y.bAt k) (-1)]) (Z.aAt k) (Z.bAt k))):=by
   show _=_;unfold Bf Pl.ltr;dsimp only;rw [aaU,aaU,hY.out,hZ.out];obtain ⟨_,rfl⟩:=aag.1 hX.out;rfl
  gi_wp2_with fail
  by_cases hne:Y.aAt k=X.aAt k
  ·have t:(Y.aAt k != X.aAt k)=false:=by rw [hne];simp
   have hia:inI (X.aAt k):=by
    have hXg:X.good=true:=aau.1 hgl.out X (aam hX.out)
    have:=iy (kG hXg k).1
    exact ⟨by omega,by omega⟩
   have He5:=e5.lt;cases hcb:qF key (X.aAt k) (iF [X.bAt k,aJ (Y.bAt k) (-1)]) (Z.aAt k) (Z.bAt k)
   ·have hfalse:Hid (v=false):=by
     show _=_;rw [Hv.out];exact rU H2.out H4.out ⟨i,k,hi⟩ (by rw [HXY.out,hcb,Bool.and_false])
    have q4:Hid (∀ w,ShaG w→Calls prog 162 #[.int .i64 key,.int .i64 (X.aAt k),.int .i64 (iF [X.bAt k,aJ (Y.bAt k) (-1)]),.agg #[.int .i64 (Z.aAt k),.int .i64 (Z.bAt k)]] w (Ret (.bool false) w)):=fun w h=>by
     have:=yZ w key (X.aAt k) (iF [X.bAt k,aJ (Y.bAt k) (-1)]) (Z.aAt k) (Z.bAt k) ⟨by omega,by omega⟩ hia (zU _) h
     rw [hcb] at this;exact this
    clear hcb hne hia;refine fD (f:=26) (k:=5) KS [1,2,1,2,1,1,2,1,2,1,2,1,2,0,0,0,2,1,2,1,2,1,1,2,0,0,0] ?_;simp only [ku,jf];refine aU ?_;refine aT ?_;refine aU ?_;refine aT ?_
    iterate 2 refine aU ?_
    refine aT ?_;refine aU ?_;refine aT ?_;refine aU ?_;refine aT ?_;refine aU ?_
    iterate 2 refine aT ?_
    refine aU ?_;refine aT ?_;refine aU ?_;refine aT ?_
    iterate 2 refine aU ?_
    refine aT ?_;refine dK ?_
    iterate 5 (refine dn (fun K hK=>?_);go_simp;(first | (go_at_call 162;(with_reducible refine (q4.out _ (hG.below (hb8.trans (Below.mono (by repeat (first | exact B1 | exact aj _ | refine bAl ?_ _ | refine bDr ?_)) hz8)))).mono ?_);rintro e w9 ⟨rfl,b9⟩;have B2:Below w8.heap.size w8 w9:=ah (by repeat (first | exact B1 | exact aj _ | refine bAl ?_ _ | refine bDr ?_)) b9) | (go_at_call 137;(with_reducible refine (nO (X.bAt k) (aJ (Y.bAt k) (-1)) _).mono ?_);rintro e w' ⟨rfl,rfl⟩) | (go_at_call 138;(with_reducible refine (jL (Y.bAt k) (-1) _).mono ?_);rintro e w9 ⟨rfl,b9⟩;have B1:Below w8.heap.size w8 w9:=ah (by repeat (first | exact aj _ | refine bAl ?_ _ | refine bDr ?_)) b9) | skip);refine lS hK KS ?_;clear hK K)
    refine dA ?_;go_wp2_with fail;refine NoOut.normal ?_;have h9:=hb8.trans (B2.mono hz8);replace b9:=B2;clear B1 B2 q4 KS;obtain ⟨k3,z3⟩:=(e4.below b9 e4.lt).one_
    gi_wp2_with fail
    exact ⟨kO.trans ((KeepsOthers.below b9).trans (KeepsOthers.setCell _ _ _)),zQ7 h9 (by show W.heap.size≤W.heap.size+1+1+1;omega) _,⟨(e4.below b9 e4.lt).set1 _,trivial⟩,rfl,hfalse⟩
   ·have hbz':Hid (Bf key x p ⟨i,k,hi⟩=true):=by show _=_;rw [HXY.out,hcb,decide_eq_true hne];rfl
    have q4:Hid (∀ w,ShaG w→Calls prog 162 #[.int .i64 key,.int .i64 (X.aAt k),.int .i64 (iF [X.bAt k,aJ (Y.bAt k) (-1)]),.agg #[.int .i64 (Z.aAt k),.int .i64 (Z.bAt k)]] w (Ret (.bool true) w)):=fun w h=>by
     have:=yZ w key (X.aAt k) (iF [X.bAt k,aJ (Y.bAt k) (-1)]) (Z.aAt k) (Z.bAt k) ⟨by omega,by omega⟩ hia (zU _) h
     rw [hcb] at this;exact this
    clear hcb hne hia;refine fD (f:=26) (k:=5) KS [1,2,1,2,1,1,2,1,2,1,2,1,2,0,0,0,2,1,2,1,2,1,1,2,0,0,0] ?_;simp only [ku,jf];refine aU ?_;refine aT ?_;refine aU ?_;refine aT ?_
    iterate 2 refine aU ?_
    refine aT ?_;refine aU ?_;refine aT ?_;refine aU ?_;refine aT ?_;refine aU ?_
    iterate 2 refine aT ?_
    refine aU ?_;refine aT ?_;refine aU ?_;refine aT ?_
    iterate 2 refine aU ?_
    refine aT ?_;refine dK ?_
    iterate 5 (refine dn (fun K hK=>?_);go_simp;(first | (go_at_call 162;(with_reducible refine (q4.out _ (hG.below (hb8.trans (Below.mono (by repeat (first | exact B1 | exact aj _ | refine bAl ?_ _ | refine bDr ?_)) hz8)))).mono ?_);rintro e w9 ⟨rfl,b9⟩;have B2:Below w8.heap.size w8 w9:=ah (by repeat (first | exact B1 | exact aj _ | refine bAl ?_ _ | refine bDr ?_)) b9) | (go_at_call 137;(with_reducible refine (nO (X.bAt k) (aJ (Y.bAt k) (-1)) _).mono ?_);rintro e w' ⟨rfl,rfl⟩) | (go_at_call 138;(with_reducible refine (jL (Y.bAt k) (-1) _).mono ?_);rintro e w9 ⟨rfl,b9⟩;have B1:Below w8.heap.size w8 w9:=ah (by repeat (first | exact aj _ | refine bAl ?_ _ | refine bDr ?_)) b9) | skip);refine lS hK KS ?_;clear hK K)
    refine dA ?_;go_wp2_with fail;refine NoOut.normal ?_;have h9:=hb8.trans (B2.mono hz8);replace b9:=B2;clear B1 B2 q4 KS
    gi_wp2_with fail
    refine ⟨kO.trans (KeepsOthers.below b9),kK.trans (Keeps.of_below b9 (fun j hj=>by omega)),h9,⟨e1.below b9 e1.lt,e2.below b9 e2.lt,e3.below b9 e3.lt,e4.below b9 e4.lt,e5.below b9 e5.lt,trivial⟩,aab ?_⟩;intro z hz;rcases aaL.1 hz with hz | hz
    ·exact hR.out z hz
    ·obtain rfl:z=⟨i,k,hi⟩:=by simpa using hz
     exact hbz'.out
  ·have t:(Y.aAt k != X.aAt k)=true:=by rw [bne_iff_ne];exact hne
   have hfalse:Hid (v=false):=by
    show _=_;rw [Hv.out];exact rU H2.out H4.out ⟨i,k,hi⟩ (by rw [HXY.out,decide_eq_false hne];rfl)
   clear hne;refine fD (f:=26) (k:=5) KS [1,2,1,2,1,1,1,1,1,1,1,1,1,0,0,0,1,1,1,1,1,1,1,1,0,0,0] ?_;simp only [ku,jf];refine aU ?_;refine aT ?_;refine aU ?_;refine aT ?_
   iterate 2 refine aU ?_
   iterate 15 refine OM ?_
   refine dK ?_
   iterate 5 (refine dn (fun K hK=>?_);go_simp;(first | (fail) | skip);refine lS hK KS ?_;clear hK K)
   refine dA ?_;go_wp2_with fail;refine NoOut.normal ?_;obtain ⟨k3,z3⟩:=e4.one_
   gi_wp2_with fail
   exact ⟨kO.trans ((KeepsOthers.setCell _ _ _).trans (KeepsOthers.drew _)),bDr (zQ7 hb8 (by show W.heap.size≤W.heap.size+1+1+1;omega) _),⟨Blk.set1 (w:=w8) e4 _,trivial⟩,rfl,hfalse⟩
 case done =>
  rintro D xs Wc hD hall hbc ⟨c1,c2,c3,c4,c5,_⟩ hR hd;dsimp only at c4;have Hv2:Hid (v=true):=by show _=_;rw [Hv.out];exact uT H2.out H4.out (fun z=>hR.out z (hall z))
  clear c1 c2 c3 c5 BK BX BQ BV BP h7;obtain ⟨k3,z3⟩:=c4.one_
  have hdd:(Wc.setCell ⟨W.heap.size+1+1+1,0,none⟩ (.bool true)).heap[D]?=some (.deferred (some [])):=by
   rw [Below.heap_setCell _ _ _ _ (fun e=>tN c4 hd rfl e.symm)];exact hd
  have hE2:=(c4.set1 (.bool true)).put (o' := .deferred none) hdd rfl;go_wp2_with fail;refine cZ (by simp) hdd ?_;have e1:=hE2.one_.1;exact ⟨.bool true,by simp [results,results84,go_sem,e1],aI Hv2.out.symm,uQ (zQ7 hbc (by show W.heap.size≤W.heap.size+1+1+1;omega) _) hD _⟩
 case stop =>
  rintro D c' pre Wc hD _ hbc ⟨c4,_⟩ ⟨rfl,hfalse⟩ hd;dsimp only at c4;clear BK BX BQ BV BP h7;have hE2:=c4.put (o' := .deferred none) hd rfl;go_wp2_with fail;refine cZ (by simp) hd ?_;have e1:=hE2.one_.1;exact ⟨.bool false,by simp [results,results84,go_sem,e1],aI hfalse.out.symm,uQ hbc hD _⟩
end
section
open Go.RowKit
def V9:ByteArray:=⟨#[101,113,117,97,108,32,110,111,110,99,101]⟩
def JX (s a:Int):Nat:=qV (sb V9) (bZ [.int s,.int a])
def zG (s a:Int):Int:=if (JX s a:Int)≤1 then (1:Int) else (JX s a:Int)
theorem QY (s a:Int):1≤zG s a∧zG s a<1073741789:=by
 have:=qW (sb V9) (bZ [.int s,.int a])
 unfold zG JX
 split <;> omega
def iT (s a:Int):Int:=(yV (aJ 4 s) a (aJ a s) (aJ 4 (zG s a)) (aJ a (zG s a)):Nat)
def kM (s a:Int):Int:=(zG s a+iT s a*s) % 1073741789
theorem D9 (s a:Int):0≤iT s a∧iT s a<1073741789:=by
 unfold iT yV
 have:=qW (sb QI) (bZ [.int (aJ 4 s),.int a,.int (aJ a s),.int (aJ 4 (zG s a)),.int (aJ a (zG s a))])
 omega
theorem We {a:Int} (h1:1≤a) (h2:a<2147483579):inI a:=⟨by omega,by omega⟩
theorem rW (a n:Int):inI (aJ a n):=by have:=vY a n;unfold inP at this;exact ⟨by omega,by omega⟩
theorem QZ {a b:Int} (ha:0≤a) (hb:0≤b) (ha2:a<1073741789) (hb2:b<1073741789):0≤a*b∧a*b≤1152921500000000000:=by
 refine ⟨Int.mul_nonneg ha hb,?_⟩;have h:a*b≤1073741788*1073741788:=Int.mul_le_mul (by omega) (by omega) hb (by omega);omega
theorem Hw (s a:Int) (W:World) (hs:iO s=true) (ha:aA a=true) (hG:ShaG W) :
  Calls prog 136 #[.int .i64 s,.int .i64 a] W (Ret (.tuple #[.int .i64 (aJ a s),.agg #[.int .i64 (iT s a),.int .i64 (kM s a)],.int .i64 0]) W):=by
 obtain ⟨s1,s2⟩:=rO hs;obtain ⟨a1,a2⟩:=iy ha;have Hd:Hid (aJ a s=aJ a s):=rfl;obtain ⟨W1,hW1⟩:∃ W1,W1=W.alloc (.cells #[.int .i64 0,.int .i64 0] 196):=⟨_,rfl⟩
 have h1:Below W.heap.size W W1:=by rw [hW1];exact bAl (aj W) _
 have B1:Blk W1 W.heap.size 196 #[.int .i64 0,.int .i64 0]:=by rw [hW1];exact Blk.new _ _ _ _ rfl
 have q1:=pM s W1;have e1:pK s=aJ 4 s:=if_pos hs;have e2:x8 s=0:=by unfold x8;rw [if_pos hs];unfold zC;rw [if_pos aV]
 rw [e1,e2] at q1;have Ha:Hid (zC a=0):=by show _=_;unfold zC;rw [if_pos ha]
 clear e1 e2 hs ha Hd;go_enter func136,ntmps136;go_upto_region 1 with fail;rw [←hW1];clear hW1;go_wp2_with fail;refine q1.mono ?_;rintro e w2 ⟨rfl,b2⟩;clear q1;replace B1:=B1.below b2 B1.lt;replace h1:=ah h1 b2;clear b2;have q2:=pJ a s w2;rw [Ha.out] at q2;go_wp2_with fail;refine q2.mono ?_;rintro e w3 ⟨rfl,b3⟩;clear q2;replace B1:=B1.below b3 B1.lt;replace h1:=ah h1 b3;clear b3;go_wp2_with fail
 refine (AU _ 2 2 [s,a] _ (by exact Rd.new w3 (ints [s,a]) _ 1 2 _ rfl rfl) (by
  intro x hx;simp only [aaq,aaw,or_false] at hx;rcases hx with rfl | rfl
  ·exact ⟨by omega,by omega⟩
  ·exact ⟨by omega,by omega⟩) (by omega)).mono ?_
 rintro e w4 ⟨v,rfl,b4,A2,c2,rfl,hR,_,_,hnil⟩;replace b4:=ah (bAl (aj w3) _) b4;replace B1:=B1.below b4 B1.lt;replace h1:=ah h1 b4;clear b4
 have hl:=jZ (l:=[.int s,.int a]) (by
  intro x hx;simp only [aaq,aaw,or_false] at hx;rcases hx with rfl | rfl
  ·exact ⟨by omega,by omega⟩
  ·exact ⟨by omega,by omega⟩) (by simp)
 have q:=qX V9 A2 _ c2 _ w4 hR hnil (iI _) (by decide) (aaj hl (by decide)) (hG.below h1);have q3:Calls prog 174 #[.string ⟨#[101,113,117,97,108,32,110,111,110,99,101]⟩,.slice A2 (bZ [.int s,.int a]).length c2] w4 (Ret (.int .i64 (JX s a:Nat)) w4):=q;clear hl hR hnil q;go_wp2_with fail;refine q3.mono ?_;rintro e w5 ⟨rfl,b5⟩;clear q3;replace B1:=B1.below b5 B1.lt;replace h1:=ah h1 b5;clear b5;have hr:=QY s a;have hE:=D9 s a;have HE:Hid (((yV (aJ 4 s) a (aJ a s) (aJ 4 (zG s a)) (aJ a (zG s a)):Nat):Int)=iT s a):=rfl;have HS:Hid ((zG s a+iT s a*s) % 1073741789=kM s a):=rfl;have hv:zG s a=if (JX s a:Int)≤1 then (1:Int) else (JX s a:Int):=rfl
 have hm:=QZ hE.1 (show 0≤s by omega) hE.2 s2;generalize iT s a=E at *;generalize kM s a=S at *;obtain ⟨m1,m2⟩:=hm;obtain ⟨E1,E2⟩:=hE;obtain ⟨hr1,hr2⟩:=hr;by_cases h:(JX s a:Int)≤1
 all_goals
  first | (rw [if_pos h] at hv;have hmx:max (1:Int) (JX s a:Int)=1:=by omega) | (rw [if_neg h] at hv;have hmx:max (1:Int) (JX s a:Int)=(JX s a:Int):=by omega)
  rw [hv] at HE HS hr1 hr2;clear hv;go_wp2_with fail;refine (jL 4 _ _).mono ?_;rintro e w6 ⟨rfl,b6⟩;replace B1:=B1.below b6 B1.lt;replace h1:=ah h1 b6;clear b6;go_wp2_with fail;refine (jL a _ _).mono ?_;rintro e w7 ⟨rfl,b7⟩;replace B1:=B1.below b7 B1.lt;replace h1:=ah h1 b7;clear b7;go_wp2_with fail
  (with_reducible refine (XM (aJ 4 s) a (aJ a s) _ _ _ (rW _ _) (We a1 a2) (rW _ _) (rW _ _) (rW _ _) (hG.below h1)).mono ?_)
  rintro e w8 ⟨rfl,b8⟩;rw [HE.out];replace B1:=B1.below b8 B1.lt;replace h1:=ah h1 b8;clear b8 HE;obtain ⟨x0,x1⟩:=B1.two;have z0:=B1.frozen 0;have z1:=B1.frozen 1;go_upto_region 10 with fail;rw [HS.out];have B2:Blk ((w8.setCell ⟨W.heap.size,0,none⟩ (.int .i64 E)).setCell ⟨W.heap.size,1,none⟩ (.int .i64 S)) W.heap.size 196 #[.int .i64 E,.int .i64 S]:=by simpa using (B1.set_ 0 (.int .i64 E)).set_ 1 (.int .i64 S)
  have h2:=zQ7 (zQ7 h1 (p:=⟨W.heap.size,0,none⟩) (aad _) (.int .i64 E)) (p:=⟨W.heap.size,1,none⟩) (aad _) (.int .i64 S);clear x0 x1 z0 z1 B1 h1 HS;generalize (w8.setCell ⟨W.heap.size,0,none⟩ (.int .i64 E)).setCell ⟨W.heap.size,1,none⟩ (.int .i64 S)=w9 at *;have KS:Hid (∀ w',Below w9.heap.size w9 w'→_):=aab (fun w' h=>(B2.below h B2.lt).two);refine kF (f:=3) (n:=1) KS [1,2,0,0,0] ?_;simp only [ku,jf];refine aU ?_;refine aT ?_;refine dK ?_
  iterate 1 (refine dn (fun K hK=>?_);go_simp;(first | (fail) | skip);refine lS hK KS ?_;clear hK K)
  refine dA ?_;refine wpList_store_row (by rfl) 196 (.tmp 5) (.tmp 53) (by rfl) W.heap.size #[.int .i64 E,.int .i64 S] (by rfl) (by rfl) 196 _ B2 (by kernel_rfl) (by rfl) (by simp [Value.oneCell']) ?_;have B3:Blk (w9.drew.setRow W.heap.size #[.int .i64 E,.int .i64 S]) W.heap.size 196 #[.int .i64 E,.int .i64 S]:=setRow_heap w9.drew W.heap.size _ _ 196 _ B2;have h3:=below_setRow (bDr h2) (aad _) #[.int .i64 E,.int .i64 S];generalize w9.drew.setRow W.heap.size #[.int .i64 E,.int .i64 S]=w10 at *;clear B2 h2 KS;obtain ⟨e0,e1⟩:=B3.two;go_wp2_with fail;refine NoPanic.normal ?_;go_wp2_with fail;exact bodyPost_ret (v := .tuple #[.int .i64 (aJ a s),.agg #[.int .i64 E,.int .i64 S],.int .i64 0]) (by simp [results,results136,go_sem,e0,e1]) rfl ⟨rfl,h3⟩
end
end Go.Proofs.YthbibbkbaphpkaaGreatDoor

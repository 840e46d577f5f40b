/- arbiter.signed; walked. -/
import Derived.Test.YtoeobcmmafncmaaGreatDoorSbg
set_option maxRecDepth 1000000
set_option maxHeartbeats 16000000
namespace Go.Proofs.YtoeobcmmafncmaaGreatDoor
open Go.RowKit
def rightB (l:List Int) (k:Nat) (a1 a2 a3 key:Int) (mo:List Ltr) (h:Hd):Bool :=
 (decide (h.line=a1∧h.at_=a2∧h.arrive=a3)&&decide (h.leg=k))&&((decide (h.from_=offAt l k)&&decide (h.to_=nextOff l k))&&((decide (h.many=mo.length)&&decide (h.root=rootL mo))&&h.signed key))
def sgF (s:Nat):Array Value:=#[.func (.func 29) #[] #[.pointer (some ⟨s+1+1+1+1+1,0,none⟩),.pointer (some ⟨s+1,0,none⟩),.pointer (some ⟨s+1+1,0,none⟩)],
 .func (.func 30) #[] #[.pointer (some ⟨s+1+1+1+1+1,0,none⟩),.pointer (some ⟨s,0,none⟩),.pointer (some ⟨s+1+1,0,none⟩),.pointer (some ⟨s+1+1+1+1,0,none⟩)],
 .func (.func 31) #[] #[.pointer (some ⟨s+1+1+1+1+1,0,none⟩),.pointer (some ⟨s+1+1+1,0,none⟩)],
 .func (.func 33) #[] #[.pointer (some ⟨s+1,0,none⟩),.pointer (some ⟨s+1+1,0,none⟩),.pointer (some ⟨s+1+1+1+1+1,0,none⟩)]]
structure SgAt (w:World) (s:Nat) (v:Value) (cs:Array Value) (k:Nat) (jc:Array Value) (tt:Int) (hc:Array Value):Prop where
 b0:Blk w s 22 #[v]
 b1:Blk w (s+1) 33 cs
 b2:Blk w (s+1+1) 3 #[.int .i64 k]
 b3:Blk w (s+1+1+1) 55 jc
 b4:Blk w (s+1+1+1+1) 3 #[.int .i64 tt]
 b5:Blk w (s+1+1+1+1+1) 53 hc
 b6:Blk w (s+1+1+1+1+1+1) 34 (sgF s)
theorem SgAt.below {w w':World} {s:Nat} {v:Value} {cs:Array Value} {k:Nat} {jc:Array Value} {tt:Int} {hc:Array Value} (h:SgAt w s v cs k jc tt hc) (b:Below w.heap.size w w'):SgAt w' s v cs k jc tt hc :=
 ⟨h.b0.below b h.b0.lt,h.b1.below b h.b1.lt,h.b2.below b h.b2.lt,h.b3.below b h.b3.lt,h.b4.below b h.b4.lt,h.b5.below b h.b5.lt,h.b6.below b h.b6.lt⟩
theorem and4v {v1 v2 v3 v4 r:Bool} (h:r=(v1&&(v2&&(v3&&v4)))):(v1=false→r=false)∧(v2=false→r=false)∧(v3=false→r=false)∧(v4=false→r=false)∧(v1=true→v2=true→v3=true→v4=true→r=true):=by
 subst h
 cases v1 <;> cases v2 <;> cases v3 <;> cases v4 <;> simp
theorem hand_mid {W:World} {b:Nat} {jc:Array Value} {h:Hd} (B:Blk W b 55 jc) (hjh:∀ (i:Nat) (v:Value),h.cl[i]?=some v→jc[7+i]?=some v):W.rangeAt b 7 h.cl:=fun j v hj=>by rw [B.cell];exact hjh j v hj
theorem ar_signed (l:List Int) (Al:Option Addr) (cl:Nat) (cs:Array Value) (a1 a2 a3:Int) (Ak:Option Addr) (ck:Nat) (keys:List Int) (k:Nat) (jc:Array Value) (h:Hd) (Am:Option Addr) (cm:Nat) (mo:List Ltr) (W:World)
  (hl:Rd W W.heap.size 1 Al l.length (ints l)) (hk:k<l.length) (hk2:k<keys.length) (hln:l.length≤1000) (hkn:keys.length≤1000) (r1:cs[0]?=some (.int .i64 a1)) (r2:cs[1]?=some (.int .i64 a2)) (r3:cs[2]?=some (.int .i64 a3))
  (hc4:cs[4]?=some (.slice Ak keys.length ck)) (hkk:Rd W W.heap.size 1 Ak keys.length (ints keys)) (hko:∀ x∈keys,inI x) (hj4:jc[4]?=some (.slice Am mo.length cm)) (hmm:Rd W W.heap.size 6 Am mo.length (mo.flatMap Ltr.cl))
  (hmo:∀ x∈mo,x.ok) (hml:mo.length≤1000) (hjh:∀ (i:Nat) (v:Value),h.cl[i]?=some v→jc[7+i]?=some v) (ho:h.ok) (hG:ShaG W) :
  Calls Tryz.prog 14 #[.slice Al l.length cl,.agg cs,.int .i64 k,.agg jc] W (Ret (.bool (rightB l k a1 a2 a3 (keys.getD k 0) mo h)) W):=by
 have hmf:∀ (fn:Fn) (first cap:Array Value) (w:World),(Instr.makeFunc fn first cap).run Tryz.prog w = .ok (.func fn first cap) w:=fun _ _ _ _=>rfl
 have hres:=and4v (r:=rightB l k a1 a2 a3 (keys.getD k 0) mo h) rfl
 obtain ⟨w5,hw5⟩:∃ w5,w5=((((W.alloc (.cells #[.slice Al l.length cl] 22)).alloc (.cells cs 33)).alloc (.cells #[.int .i64 k] 3)).alloc (.cells jc 55)).alloc (.cells #[.int .i64 (-1)] 3):=⟨_,rfl⟩
 have hb5:Below W.heap.size W w5:=by rw [hw5];exact bAl (bAl (bAl (bAl (bAl (bRefl W) _) _) _) _) _
 have C0:Blk w5 W.heap.size 22 #[.slice Al l.length cl]:=by rw [hw5];exact ((((Blk.new W _ _ _ rfl).alloc _).alloc _).alloc _).alloc _
 have C1:Blk w5 (W.heap.size+1) 33 cs:=by rw [hw5];exact (((Blk.new _ _ _ _ (by simp)).alloc _).alloc _).alloc _
 have C2:Blk w5 (W.heap.size+1+1) 3 #[.int .i64 k]:=by rw [hw5];exact ((Blk.new _ _ _ _ (by simp)).alloc _).alloc _
 have C3:Blk w5 (W.heap.size+1+1+1) 55 jc:=by rw [hw5];exact (Blk.new _ _ _ _ (by simp)).alloc _
 have C4:Blk w5 (W.heap.size+1+1+1+1) 3 #[.int .i64 (-1)]:=by rw [hw5];exact Blk.new _ _ _ _ (by simp)
 have hz5:w5.heap.size=W.heap.size+1+1+1+1+1:=by rw [hw5];simp
 go_enter Tryz.func14,Tryz.ntmps14
 go_upto_region 2 with fail
 rw [←hw5]
 clear hw5
 have b0:w5.cell? ⟨W.heap.size,0,none⟩=some (.slice Al l.length cl):=C0.cell 0
 have k0:w5.cell? ⟨W.heap.size+1+1,0,none⟩=some (.int .i64 k):=C2.cell 0
 have t0:w5.cell? ⟨W.heap.size+1+1+1+1,0,none⟩=some (.int .i64 (-1)):=C4.cell 0
 have z0:=C4.frozen 0
 have HZ:=Lib.hid hz5
 clear hz5
 by_cases hk1:k+1<l.length
 obtain ⟨x,hx⟩:∃ x,Hid (l[k+1]?=some x):=⟨_,Lib.hid (List.getElem?_eq_getElem hk1)⟩
 obtain ⟨b,off,rfl,_,hc⟩:=hl.2 (by omega)
 have d1:w5.cell? ⟨b,off+(k+1),none⟩=some (.int .i64 x):=(hb5.cell (p:=⟨b,off+(k+1),none⟩) (by assumption)).trans (hc (k+1) _ (ints_at hx.out))
 have hto:Hid (nextOff l k=x):=Lib.hid (by unfold nextOff;simp [List.getD,hx.out])
 have i0:(k:Int)+1<(l.length:Int):=by omega
 have i1:(0:Int)≤(k:Int)+1:=by omega
 have i2:((k:Int)+1).toNat=k+1:=by omega
 have i3:IntKind.i64.wrap ((k:Int)+1)=(k:Int)+1:=by rw [IntKind.wrap_i64];omega
 clear hc
 go_upto_region 4 with fail
 clear d1 i0 i1 i2 i3 b0 k0 t0 z0
 generalize hv0:Value.slice (some ⟨b,off,none⟩) l.length cl=v0 at *
 replace hb5:=bSet hb5 (p:=⟨W.heap.size+1+1+1+1,0,none⟩) (by show W.heap.size≤W.heap.size+1+1+1+1;omega) (.int .i64 x)
 replace C0:=C0.far (p:=⟨W.heap.size+1+1+1+1,0,none⟩) (by show W.heap.size≠W.heap.size+1+1+1+1;omega) (.int .i64 x)
 replace C1:=C1.far (p:=⟨W.heap.size+1+1+1+1,0,none⟩) (by show W.heap.size+1≠W.heap.size+1+1+1+1;omega) (.int .i64 x)
 replace C2:=C2.far (p:=⟨W.heap.size+1+1+1+1,0,none⟩) (by show W.heap.size+1+1≠W.heap.size+1+1+1+1;omega) (.int .i64 x)
 replace C3:=C3.far (p:=⟨W.heap.size+1+1+1+1,0,none⟩) (by show W.heap.size+1+1+1≠W.heap.size+1+1+1+1;omega) (.int .i64 x)
 replace C4:Blk (w5.setCell ⟨W.heap.size+1+1+1+1,0,none⟩ (.int .i64 x)) (W.heap.size+1+1+1+1) 3 #[.int .i64 (nextOff l k)]:=by rw [hto.out];exact C4.set_ 0 _
 replace HZ:Hid ((w5.setCell ⟨W.heap.size+1+1+1+1,0,none⟩ (.int .i64 x)).heap.size=W.heap.size+1+1+1+1+1):=Lib.hid (by have:=HZ.out;simpa using this)
 generalize w5.setCell ⟨W.heap.size+1+1+1+1,0,none⟩ (.int .i64 x)=wc at *
 have hv:Hid (∃ A c,v0 = .slice A l.length c∧Rd W W.heap.size 1 A l.length (ints l)):=Lib.hid ⟨_,_,hv0.symm,hl⟩
 clear hv0 hl
 rotate_left 1
 have hto:Hid (nextOff l k = -1):=Lib.hid (by unfold nextOff;simp [List.getD,List.getElem?_eq_none (Nat.le_of_not_lt hk1)])
 have i0:¬((k:Int)+1<(l.length:Int)):=by omega
 have i3:IntKind.i64.wrap ((k:Int)+1)=(k:Int)+1:=by rw [IntKind.wrap_i64];omega
 go_upto_region 4 with fail
 clear i0 i3 b0 k0 t0 z0
 rw [←hto.out] at C4
 generalize w5=wc at *
 generalize hv0:Value.slice Al l.length cl=v0 at *
 have hv:Hid (∃ A c,v0 = .slice A l.length c∧Rd W W.heap.size 1 A l.length (ints l)):=Lib.hid ⟨_,_,hv0.symm,hl⟩
 clear hv0 hl
 all_goals
  clear hk1
  have hcl:=Hd.cl_length ho
  have hone:h.cl.toArray.all (·.oneCell')=true:=by rw [Array.all_eq_true_iff_forall_mem];intro v hv;exact h.one v (by simpa using hv)
  have hmid:=hand_mid C3 hjh
  apply wp_region_lit
  iterate 3 go_step
  refine wpList_load_mid rfl 53 (.tmp 23) rfl (W.heap.size+1+1+1) 7 rfl h.cl _ hmid Tryz.underlying53 rfl (by rw [hcl];exact hand_info) ?_
  iterate 3 go_step
  refine wpList_store_row rfl 53 (.tmp 10) (.tmp 24) rfl wc.heap.size h.cl.toArray rfl rfl 53 _ (Blk.new wc _ _ _ rfl) (by rw [List.size_toArray,hcl];exact hand_info) (by rw [List.size_toArray,List.size_toArray,hcl];rfl) hone ?_
  rw [setRow_alloc]
  have B5:=Blk.new wc 53 h.cl.toArray _ rfl
  replace hb5:=bAl hb5 (.cells h.cl.toArray 53)
  replace C0:=C0.alloc (.cells h.cl.toArray 53)
  replace C1:=C1.alloc (.cells h.cl.toArray 53)
  replace C2:=C2.alloc (.cells h.cl.toArray 53)
  replace C3:=C3.alloc (.cells h.cl.toArray 53)
  replace C4:=C4.alloc (.cells h.cl.toArray 53)
  have hz6:(wc.alloc (.cells h.cl.toArray 53)).heap.size=W.heap.size+1+1+1+1+1+1:=by rw [World.size_alloc,HZ.out]
  rw [HZ.out] at B5 ⊢
  clear hmid HZ hone hcl hto
  generalize wc.alloc (.cells h.cl.toArray 53)=w6 at *
  have q1:∀ w,Below W.heap.size W w→SgAt w W.heap.size v0 cs k jc (nextOff l k) h.cl.toArray→Calls Tryz.prog 29 #[.pointer (some ⟨W.heap.size+1+1+1+1+1,0,none⟩),.pointer (some ⟨W.heap.size+1,0,none⟩),.pointer (some ⟨W.heap.size+1+1,0,none⟩)] w (Same (.bool (decide (h.line=a1∧h.at_=a2∧h.arrive=a3)&&decide (h.leg=k))) w):=fun w _ S=>sg1 _ _ _ h ho cs a1 a2 a3 k w S.b5 S.b1 S.b2 r1 r2 r3
  have q2:∀ w,Below W.heap.size W w→SgAt w W.heap.size v0 cs k jc (nextOff l k) h.cl.toArray→Calls Tryz.prog 30 #[.pointer (some ⟨W.heap.size+1+1+1+1+1,0,none⟩),.pointer (some ⟨W.heap.size,0,none⟩),.pointer (some ⟨W.heap.size+1+1,0,none⟩),.pointer (some ⟨W.heap.size+1+1+1+1,0,none⟩)] w (Ret (.bool (decide (h.from_=offAt l k)&&decide (h.to_=nextOff l k))) w):=fun w hw S=>by
   obtain ⟨A,c,e,hr⟩:=hv.out
   have b0:=S.b0
   rw [e] at b0
   exact sg2 _ _ _ _ h ho A c W.heap.size l k hk (nextOff l k) w S.b5 b0 S.b2 S.b4 (hr.below hw) (by omega)
  have q3:∀ w,Below W.heap.size W w→SgAt w W.heap.size v0 cs k jc (nextOff l k) h.cl.toArray→Calls Tryz.prog 31 #[.pointer (some ⟨W.heap.size+1+1+1+1+1,0,none⟩),.pointer (some ⟨W.heap.size+1+1+1,0,none⟩)] w (Ret (.bool (decide (h.many=mo.length)&&decide (h.root=rootL mo))) w):=fun w hw S =>
   sg3 _ _ h ho jc Am cm W.heap.size mo w S.b5 S.b3 hj4 (hmm.below hw) hw.size hmo hml (hG.below hw)
  have q4:∀ w,Below W.heap.size W w→SgAt w W.heap.size v0 cs k jc (nextOff l k) h.cl.toArray→Calls Tryz.prog 33 #[.pointer (some ⟨W.heap.size+1,0,none⟩),.pointer (some ⟨W.heap.size+1+1,0,none⟩),.pointer (some ⟨W.heap.size+1+1+1+1+1,0,none⟩)] w (Ret (.bool (h.signed (keys.getD k 0))) w):=fun w hw S =>
   sg4 _ _ _ h ho cs Ak ck W.heap.size keys k hk2 w S.b5 S.b1 S.b2 hc4 (hkk.below hw) hw.size hko (by omega) (hG.below hw)
  have SG:SgAt (w6.alloc (.cells (sgF W.heap.size) 34)) W.heap.size v0 cs k jc (nextOff l k) h.cl.toArray:=⟨C0.alloc _,C1.alloc _,C2.alloc _,C3.alloc _,C4.alloc _,B5.alloc _,Blk.new w6 _ _ _ (by rw [hz6])⟩
  replace hb5:=bAl hb5 (.cells (sgF W.heap.size) 34)
  generalize rightB l k a1 a2 a3 (keys.getD k 0) mo h=r at *
  generalize (decide (h.line=a1∧h.at_=a2∧h.arrive=a3)&&decide (h.leg=k))=v1 at *
  generalize (decide (h.from_=offAt l k)&&decide (h.to_=nextOff l k))=v2 at *
  generalize (decide (h.many=mo.length)&&decide (h.root=rootL mo))=v3 at *
  generalize h.signed (keys.getD k 0)=v4 at *
  generalize nextOff l k=tt at *
  generalize h.cl.toArray=hc at *
  replace q1:=Lib.hid q1
  replace q2:=Lib.hid q2
  replace q3:=Lib.hid q3
  replace q4:=Lib.hid q4
  replace hres:=Lib.hid hres
  clear C0 C1 C2 C3 C4 B5 hkk hko hmm hmo hjh ho r1 r2 r3 hc4 hj4 hv
  go_wp2_with fail
  change Code.wp _ _ _ _ (w6.alloc (.cells (sgF W.heap.size) 34))
  clear hz6
  generalize w6.alloc (.cells (sgF W.heap.size) 34)=w7 at *
  go_loopw [31] (fun i wr=>∃ m:Int,i = .int .i64 m∧Below W.heap.size W wr∧SgAt wr W.heap.size v0 cs k jc tt hc∧(m=0∨m=1∧v1=true∨m=2∧v1=true∧v2=true∨m=3∧v1=true∧v2=true∧v3=true∨m=4∧v1=true∧v2=true∧v3=true∧v4=true)) (fun i _=>4 - (intOf i).toNat)
  case atStart=>exact ⟨0,rfl,hb5,SG,.inl rfl⟩
  case round =>
   clear hb5 SG
   obtain ⟨m,rfl,hb,SG,hm⟩:=hrel
   have f0:wr.cell? ⟨W.heap.size+1+1+1+1+1+1,0,none⟩=some (.func (.func 29) #[] #[.pointer (some ⟨W.heap.size+1+1+1+1+1,0,none⟩),.pointer (some ⟨W.heap.size+1,0,none⟩),.pointer (some ⟨W.heap.size+1+1,0,none⟩)]):=SG.b6.cell 0
   have f1:wr.cell? ⟨W.heap.size+1+1+1+1+1+1,1,none⟩=some (.func (.func 30) #[] #[.pointer (some ⟨W.heap.size+1+1+1+1+1,0,none⟩),.pointer (some ⟨W.heap.size,0,none⟩),.pointer (some ⟨W.heap.size+1+1,0,none⟩),.pointer (some ⟨W.heap.size+1+1+1+1,0,none⟩)]):=SG.b6.cell 1
   have f2:wr.cell? ⟨W.heap.size+1+1+1+1+1+1,2,none⟩=some (.func (.func 31) #[] #[.pointer (some ⟨W.heap.size+1+1+1+1+1,0,none⟩),.pointer (some ⟨W.heap.size+1+1+1,0,none⟩)]):=SG.b6.cell 2
   have f3:wr.cell? ⟨W.heap.size+1+1+1+1+1+1,3,none⟩=some (.func (.func 33) #[] #[.pointer (some ⟨W.heap.size+1,0,none⟩),.pointer (some ⟨W.heap.size+1+1,0,none⟩),.pointer (some ⟨W.heap.size+1+1+1+1+1,0,none⟩)]):=SG.b6.cell 3
   rcases hm with rfl | ⟨rfl,h1⟩ | ⟨rfl,h1,h2⟩ | ⟨rfl,h1,h2,h3⟩ | ⟨rfl,h1,h2,h3,h4⟩
   ·have q:=q1.out wr hb SG
    cases hc1:v1
    ·rw [hc1] at q
     go_wp2_with fail
     (with_reducible refine q.mono ?_)
     rintro e w8 ⟨rfl,rfl⟩
     clear q
     go_wp2_with fail
     go_ret
     exact ⟨ret_bool (hres.out.1 hc1).symm,hb⟩
    ·rw [hc1] at q
     go_wp2_with fail
     (with_reducible refine q.mono ?_)
     rintro e w8 ⟨rfl,rfl⟩
     clear q
     go_wp2_with fail
     exact ⟨⟨1,rfl,hb,SG,.inr (.inl ⟨rfl,trivial⟩)⟩,by simp [intOf]⟩
   ·have q:=q2.out wr hb SG
    cases hc1:v2
    ·rw [hc1] at q
     go_wp2_with fail
     (with_reducible refine q.mono ?_)
     rintro e w8 ⟨rfl,b8⟩
     clear q
     go_wp2_with fail
     go_ret
     exact ⟨ret_bool (hres.out.2.1 hc1).symm,bCall hb b8⟩
    ·rw [hc1] at q
     go_wp2_with fail
     (with_reducible refine q.mono ?_)
     rintro e w8 ⟨rfl,b8⟩
     clear q
     go_wp2_with fail
     exact ⟨⟨2,rfl,bCall hb b8,SG.below b8,.inr (.inr (.inl ⟨rfl,h1,trivial⟩))⟩,by simp [intOf]⟩
   ·have q:=q3.out wr hb SG
    cases hc1:v3
    ·rw [hc1] at q
     go_wp2_with fail
     (with_reducible refine q.mono ?_)
     rintro e w8 ⟨rfl,b8⟩
     clear q
     go_wp2_with fail
     go_ret
     exact ⟨ret_bool (hres.out.2.2.1 hc1).symm,bCall hb b8⟩
    ·rw [hc1] at q
     go_wp2_with fail
     (with_reducible refine q.mono ?_)
     rintro e w8 ⟨rfl,b8⟩
     clear q
     go_wp2_with fail
     exact ⟨⟨3,rfl,bCall hb b8,SG.below b8,.inr (.inr (.inr (.inl ⟨rfl,h1,h2,trivial⟩)))⟩,by simp [intOf]⟩
   ·have q:=q4.out wr hb SG
    cases hc1:v4
    ·rw [hc1] at q
     go_wp2_with fail
     (with_reducible refine q.mono ?_)
     rintro e w8 ⟨rfl,b8⟩
     clear q
     go_wp2_with fail
     go_ret
     exact ⟨ret_bool (hres.out.2.2.2.1 hc1).symm,bCall hb b8⟩
    ·rw [hc1] at q
     go_wp2_with fail
     (with_reducible refine q.mono ?_)
     rintro e w8 ⟨rfl,b8⟩
     clear q
     go_wp2_with fail
     exact ⟨⟨4,rfl,bCall hb b8,SG.below b8,.inr (.inr (.inr (.inr ⟨rfl,h1,h2,h3,trivial⟩)))⟩,by simp [intOf]⟩
   ·have hr:=hres.out.2.2.2.2 h1 h2 h3 h4
    replace hr:=Lib.hid hr
    go_wp2_with fail
    go_ret
    exact ⟨ret_bool hr.out.symm,hb⟩
end Go.Proofs.YtoeobcmmafncmaaGreatDoor

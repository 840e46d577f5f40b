/- paths: what an office shows; bare, asked, stripped. -/
import Derived.Test.YtoeobcmmafncmaaGreatDoorSam
import Derived.Test.YtoeobcmmafncmaaGreatDoorSab
import Derived.Test.YtoeobcmmafncmaaGreatDoorSaj
import Derived.Test.YtoeobcmmafncmaaGreatDoorSad
import Derived.ChangeKeysEq
set_option maxRecDepth 1000000
set_option maxHeartbeats 16000000
namespace Go.Proofs.YtoeobcmmafncmaaGreatDoor
open Go.RowKit
def LsAt (w:World) (B:Nat) (o:Option Value) (l:List Ltr):Prop:=∃ A c,o=some (.slice A l.length c)∧Rd w B 6 A l.length (l.flatMap Ltr.cl)∧l.length≤c∧c≤9223372036854775807
def dgC (d:List Nat):List Value:=byts d
def DsAt (w:World) (B:Nat) (o:Option Value) (l:List (List Nat)):Prop:=∃ A c,o=some (.slice A l.length c)∧Rd w B 32 A l.length (l.flatMap byts)∧l.length≤c∧c≤9223372036854775807∧∀ d∈l,d.length=32∧okB d
structure Jb where
 bare:List Ltr
 proofs:List Ltr
 mi:List Ltr
 mm:List Ltr
 mo:List Ltr
 ml:List (List Nat)
 mr:List (List Nat)
structure JobAt (w:World) (B:Nat) (f:Nat→Option Value) (j:Jb):Prop where
 h0:LsAt w B (f 0) j.bare
 h1:LsAt w B (f 1) j.proofs
 h2:LsAt w B (f 2) j.mi
 h3:LsAt w B (f 3) j.mm
 h4:LsAt w B (f 4) j.mo
 h5:DsAt w B (f 5) j.ml
 h6:DsAt w B (f 6) j.mr
def Jb.emptyB (j:Jb):Bool:=decide (j.mi.length+j.mm.length+j.mo.length=0)
section
variable {w w':World} {B:Nat} {o:Option Value}
theorem LsAt.below {l:List Ltr} (h:LsAt w B o l) (b:Below B w w'):LsAt w' B o l:=by obtain ⟨A,c,h1,h2,h3,h4⟩:=h;exact ⟨A,c,h1,h2.below b,h3,h4⟩
theorem LsAt.more {B':Nat} {l:List Ltr} (h:LsAt w B o l) (b:B≤B'):LsAt w B' o l:=by obtain ⟨A,c,h1,h2,h3,h4⟩:=h;exact ⟨A,c,h1,h2.more b,h3,h4⟩
theorem DsAt.below {l:List (List Nat)} (h:DsAt w B o l) (b:Below B w w'):DsAt w' B o l:=by obtain ⟨A,c,h1,h2,h3,h4,h5⟩:=h;exact ⟨A,c,h1,h2.below b,h3,h4,h5⟩
theorem DsAt.more {B':Nat} {l:List (List Nat)} (h:DsAt w B o l) (b:B≤B'):DsAt w B' o l:=by obtain ⟨A,c,h1,h2,h3,h4,h5⟩:=h;exact ⟨A,c,h1,h2.more b,h3,h4,h5⟩
theorem JobAt.below {f:Nat→Option Value} {j:Jb} (h:JobAt w B f j) (b:Below B w w'):JobAt w' B f j:=⟨h.h0.below b,h.h1.below b,h.h2.below b,h.h3.below b,h.h4.below b,h.h5.below b,h.h6.below b⟩
theorem JobAt.more {B':Nat} {f:Nat→Option Value} {j:Jb} (h:JobAt w B f j) (b:B≤B'):JobAt w B' f j:=⟨h.h0.more b,h.h1.more b,h.h2.more b,h.h3.more b,h.h4.more b,h.h5.more b,h.h6.more b⟩
end
structure ShnAt (w:World) (B:Nat) (cs:Array Value) (inn:List Ltr) (key rest:Int) (j:Jb):Prop where
 hin:LsAt w B cs[0]? inn
 hkey:cs[1]?=some (.int .i64 key)
 hrest:cs[2]?=some (.int .i64 rest)
 hjob:JobAt w B (fun i=>cs[3+i]?) j
theorem ShnAt.below {w w':World} {B:Nat} {cs:Array Value} {inn:List Ltr} {key rest:Int} {j:Jb} (h:ShnAt w B cs inn key rest j) (b:Below B w w'):ShnAt w' B cs inn key rest j:=⟨h.hin.below b,h.hkey,h.hrest,h.hjob.below b⟩
theorem ShnAt.more {w:World} {B B':Nat} {cs:Array Value} {inn:List Ltr} {key rest:Int} {j:Jb} (h:ShnAt w B cs inn key rest j) (b:B≤B'):ShnAt w B' cs inn key rest j:=⟨h.hin.more b,h.hkey,h.hrest,h.hjob.more b⟩
def Jb.small (j:Jb):Prop:=j.bare.length≤1152921504606846976∧j.mi.length≤1152921504606846976∧j.mm.length≤1152921504606846976∧j.mo.length≤1152921504606846976
def Lens3 (f:Nat→Option Value) (v:Bool):Prop:=∃ A1 n1 c1 A2 n2 c2 A3 n3 c3,f 2=some (.slice A1 n1 c1)∧f 3=some (.slice A2 n2 c2)∧f 4=some (.slice A3 n3 c3)∧n1≤1152921504606846976∧n2≤1152921504606846976∧n3≤1152921504606846976∧v=decide (n1+n2+n3=0)
theorem JobAt.lens3 {w:World} {B:Nat} {f:Nat→Option Value} {j:Jb} (h:JobAt w B f j) (hs:j.small):Lens3 f j.emptyB:=by
 obtain ⟨_,l1,l2,l3⟩:=hs
 obtain ⟨A1,c1,h5,_⟩:=h.h2
 obtain ⟨A2,c2,h6,_⟩:=h.h3
 obtain ⟨A3,c3,h7,_⟩:=h.h4
 exact ⟨A1,_,c1,A2,_,c2,A3,_,c3,h5,h6,h7,l1,l2,l3,rfl⟩
theorem pa_bare_ (cs:Array Value) (v:Bool) (W:World) (h:Lens3 (fun i=>cs[3+i]?) v) :
  Calls Tryz.prog 25 #[.agg cs] W (Ret (.bool v) W):=by
 obtain ⟨A1,n1,c1,A2,n2,c2,A3,n3,c3,h5,h6,h7,l1,l2,l3,he0⟩:=h
 have B0:=Blk.new W 81 cs _ rfl
 have hb:=bAl (bRefl W) (.cells cs 81)
 have k5:=(B0.cell 5).trans h5
 have k6:=(B0.cell 6).trans h6
 have k7:=(B0.cell 7).trans h7
 have he:=Lib.hid he0
 clear h5 h6 h7 he0
 go_enter Tryz.func25,Tryz.ntmps25
 go_wp2_with fail
 go_ret
 refine ⟨ret_bool ?_,hb⟩
 rw [he.out]
 rw [Bool.eq_iff_iff];simp;omega
theorem pa_asked1 (cs st:Array Value) (m:Int) (k:Value) (W:World) (h:st[73]?=some (.int .i64 m)) :
  Calls Tryz.prog 58 #[.agg cs,.agg st,k] W (Ret (.bool (m != -1)) W):=by
 have B0:=Blk.new (W.alloc (.cells cs 81)) 86 st (W.heap.size+1) (by simp)
 have hb:=bAl (bAl (bRefl W) (.cells cs 81)) (.cells st 86)
 have k5:=(B0.cell 73).trans h
 clear h
 go_enter Tryz.func58,Tryz.ntmps58
 go_wp2_with fail
 go_ret
 exact ⟨rfl,hb⟩
theorem pa_asked (W:World) :
  Calls Tryz.prog 27 #[] W fun e w'=>e = .returned (.slice (some ⟨W.heap.size,0,none⟩) 3 3) ∧
   w'=W.alloc (.cells #[.int .i64 5,.func (.func 58) #[] #[],.int .i64 3,.func (.func 59) #[] #[],.int .i64 4,.func (.func 60) #[] #[]] 90):=by
 go_enter Tryz.func27,Tryz.ntmps27
 go_wp2_with fail
 go_ret
 exact ⟨rfl,rfl⟩
theorem Rd.one {w:World} {B k n b off:Nat} {l:List Ltr} {x:Ltr} (h:Rd w B 6 (some ⟨b,off,none⟩) n (l.flatMap Ltr.cl)) (hk:k<n) (hx:l[k]?=some x):Rd w B 6 (some ⟨b,off+k*6,none⟩) 1 ([x].flatMap Ltr.cl):=by
 obtain ⟨b',off',e,hb,c0,c1,c2,c3,c4,c5⟩:=Ltr_at h hk hx
 injection e with e
 injection e with e1 e2
 subst e1;subst e2
 refine ⟨rfl,fun _=>⟨_,_,rfl,hb,fun j u hu=>?_⟩⟩
 have hj:j<6:=by have:=(List.getElem?_eq_some_iff.1 hu).1;simpa [Ltr.cl] using this
 obtain rfl | rfl | rfl | rfl | rfl | rfl:j=0∨j=1∨j=2∨j=3∨j=4∨j=5:=by omega
 all_goals
  simp [Ltr.cl] at hu
  subst hu
  assumption
theorem and4 {a b c d:Prop} (h1:a) (h2:b) (h3:c) (h4:d):a∧b∧c∧d:=⟨h1,h2,h3,h4⟩
def strippedB (key:Int) (inn:List Ltr) (j:Jb) (k:Nat):Bool:=decide (k<inn.length)&&(decide (j.bare.length=inn.length)&&(decide (j.proofs.length=inn.length) &&
 checkBareB key [inn.getD k zeroL] [j.bare.getD k zeroL] [j.proofs.getD k zeroL]))
theorem pa_stripped (cs st:Array Value) (inn:List Ltr) (key rest:Int) (j:Jb) (k:Nat) (W:World) (h:ShnAt W W.heap.size cs inn key rest j) (hk:k≤1152921504606846976) (hG:ShaG W) :
  Calls Tryz.prog 59 #[.agg cs,.agg st,.int .i64 (k:Nat)] W (Ret (.bool (strippedB key inn j k)) W):=by
 obtain ⟨A,c,h0,hA,hAc,hAm⟩:=h.hin
 obtain ⟨A1,c1,h1,hA1,hA1c,hA1m⟩:=h.hjob.h0
 obtain ⟨A2,c2,h2,hA2,hA2c,hA2m⟩:=h.hjob.h1
 have hk1:=h.hkey
 obtain ⟨v,hv⟩:∃ v,v=strippedB key inn j k:=⟨_,rfl⟩
 rw [←hv]
 have B0:Blk ((W.alloc (.cells cs 81)).alloc (.cells st 86)) W.heap.size 81 cs:=(Blk.new W _ cs _ rfl).alloc _
 have hb:=bAl (bAl (bRefl W) (.cells cs 81)) (.cells st 86)
 go_enter Tryz.func59,Tryz.ntmps59
 go_upto_region 1 with fail
 generalize (W.alloc (.cells cs 81)).alloc (.cells st 86)=W2 at *
 have k0:=(B0.cell 0).trans h0
 have KS:Hid (∀ w',Below W2.heap.size W2 w'→_):=Lib.hid (fun w' h=>and4 (((B0.below h B0.lt).cell 0).trans h0) (((B0.below h B0.lt).cell 1).trans hk1) (((B0.below h B0.lt).cell 3).trans h1) (((B0.below h B0.lt).cell 4).trans h2))
 clear h0 h1 h2 hk1
 go_wp2_with fail
 clear k0
 by_cases t1:k<inn.length
 case neg =>
  have Hv:Hid (v=false):=by show _=_;rw [hv];unfold strippedB;rw [decide_eq_false t1];rfl
  have e1:decide ((k:Int)<(inn.length:Int))=false:=by rw [decide_eq_false];omega
  have e2:decide (k<inn.length)=false:=decide_eq_false t1
  clear hv t1
  refine wp_region_maskB (f:=44) (n:=2) KS [1,1,1,1,1,1,1,1,1,1,1,1,1,1,1,1,1,1,1,1,1,1,1,1,1,1,1,1,1,1,1,1,1,1,1,1,1,1,1,1,1,1,0,0,0] ?_
  simp only [pickH,pickT]
  iterate 4 refine wpHeads_t ?_
  iterate 6 refine wpHeads_p ?_
  iterate 2 refine wpHeads_t ?_
  iterate 6 refine wpHeads_p ?_
  iterate 2 refine wpHeads_t ?_
  iterate 22 refine wpHeads_p ?_
  refine wpHeads_nil ?_
  iterate 2 (refine wpTailS_cons (fun K hK=>?_);go_simp;(first | (fail) | skip);refine mask_go hK KS ?_;clear hK K)
  refine wpTailS_zero ?_
  go_wp2_with fail
  refine NoPanic.normal ?_
  go_wp2_with fail
  go_ret
  exact ⟨ret_bool Hv.out.symm,bDr hb⟩
 by_cases t2:j.bare.length=inn.length
 case neg =>
  have Hv:Hid (v=false):=by show _=_;rw [hv];unfold strippedB;rw [decide_eq_false t2];simp
  have e1:((j.bare.length:Int)==(inn.length:Int))=false:=by rw [beq_eq_false_iff_ne];omega
  clear hv t2
  refine wp_region_maskB (f:=44) (n:=2) KS [1,1,1,1,1,1,2,1,1,1,1,1,1,1,1,1,1,1,1,1,1,1,1,1,1,1,1,1,1,1,1,1,1,1,1,1,1,1,1,1,1,1,0,0,0] ?_
  simp only [pickH,pickT]
  iterate 6 refine wpHeads_t ?_
  refine wpHeads_r ?_
  iterate 5 refine wpHeads_t ?_
  iterate 6 refine wpHeads_p ?_
  iterate 2 refine wpHeads_t ?_
  iterate 22 refine wpHeads_p ?_
  refine wpHeads_nil ?_
  iterate 2 (refine wpTailS_cons (fun K hK=>?_);go_simp;(first | (fail) | skip);refine mask_go hK KS ?_;clear hK K)
  refine wpTailS_zero ?_
  go_wp2_with fail
  refine NoPanic.normal ?_
  go_wp2_with fail
  go_ret
  exact ⟨ret_bool Hv.out.symm,bDr hb⟩
 have e2:((j.bare.length:Int)==(inn.length:Int))=true:=by rw [beq_iff_eq];omega
 by_cases t3:j.proofs.length=inn.length
 case neg =>
  have Hv:Hid (v=false):=by show _=_;rw [hv];unfold strippedB;rw [decide_eq_false t3];simp
  have e1:((j.proofs.length:Int)==(inn.length:Int))=false:=by rw [beq_eq_false_iff_ne];omega
  clear hv t2 t3
  refine wp_region_maskB (f:=44) (n:=2) KS [1,1,1,1,1,1,2,1,1,1,1,1,1,1,2,1,1,1,1,1,1,1,1,1,1,1,1,1,1,1,1,1,1,1,1,1,1,1,1,1,1,1,0,0,0] ?_
  simp only [pickH,pickT]
  iterate 6 refine wpHeads_t ?_
  refine wpHeads_r ?_
  iterate 7 refine wpHeads_t ?_
  refine wpHeads_r ?_
  iterate 5 refine wpHeads_t ?_
  iterate 22 refine wpHeads_p ?_
  refine wpHeads_nil ?_
  iterate 2 (refine wpTailS_cons (fun K hK=>?_);go_simp;(first | (fail) | skip);refine mask_go hK KS ?_;clear hK K)
  refine wpTailS_zero ?_
  go_wp2_with fail
  refine NoPanic.normal ?_
  go_wp2_with fail
  go_ret
  exact ⟨ret_bool Hv.out.symm,bDr hb⟩
 have e3:((j.proofs.length:Int)==(inn.length:Int))=true:=by rw [beq_iff_eq];omega
 case pos =>
  obtain ⟨x,hx⟩:∃ x,Hid (inn[k]?=some x):=⟨_,Lib.hid (List.getElem?_eq_getElem t1)⟩
  obtain ⟨y,hy⟩:∃ y,Hid (j.bare[k]?=some y):=⟨_,Lib.hid (List.getElem?_eq_getElem (by omega))⟩
  obtain ⟨z,hz⟩:∃ z,Hid (j.proofs[k]?=some z):=⟨_,Lib.hid (List.getElem?_eq_getElem (by omega))⟩
  have Hv:Hid (v=checkBareB key [x] [y] [z]):=by
   show _=_
   rw [hv];unfold strippedB
   rw [decide_eq_true t1,decide_eq_true t2,decide_eq_true t3,List.getD_eq_getElem?_getD,List.getD_eq_getElem?_getD,List.getD_eq_getElem?_getD,hx.out,hy.out,hz.out];rfl
  obtain ⟨b,off,rfl,hbb,_⟩:=Ltr_at hA t1 hx.out
  obtain ⟨b1,off1,rfl,hbb1,_⟩:=Ltr_at hA1 (show k<j.bare.length by omega) hy.out
  obtain ⟨b2,off2,rfl,hbb2,_⟩:=Ltr_at hA2 (show k<j.proofs.length by omega) hz.out
  have r0:=Rd.one hA t1 hx.out
  have r1:=Rd.one hA1 (show k<j.bare.length by omega) hy.out
  have r2:=Rd.one hA2 (show k<j.proofs.length by omega) hz.out
  have q:Hid (∀ w:World,Below W.heap.size W w→Calls Tryz.prog 26 #[.int .i64 key,.slice (some ⟨b,off+k*6,none⟩) 1 (c - k),.slice (some ⟨b1,off1+k*6,none⟩) 1 (c1 - k),.slice (some ⟨b2,off2+k*6,none⟩) 1 (c2 - k)] w (Ret (.bool v) w)):=fun w hw=>by
   rw [Hv.out]
   exact equal_checkBare key _ _ _ 1 1 1 _ _ _ [x] [y] [z] w (r0.below hw |>.more hw.size) (r1.below hw |>.more hw.size) (r2.below hw |>.more hw.size) (by omega) (by omega) (by omega) (hG.below hw)
  have i0:(0:Int)≤(k:Int):=by omega
  have i1:IntKind.i64.wrap ((k:Int)+1)=(k:Int)+1:=by rw [IntKind.wrap_i64];omega
  have i2:((k:Int)+1).toNat=k+1:=by omega
  have i3:(k:Int)+1≤(c:Int):=by omega
  have i4:(k:Int)+1≤(c1:Int):=by omega
  have i5:(k:Int)+1≤(c2:Int):=by omega
  have i6:decide ((k:Int)<(inn.length:Int))=true:=by rw [decide_eq_true];omega
  have i7:(0:Int)≤(k:Int)+1:=by omega
  have n1:¬(c=k):=by omega
  have n2:¬(c1=k):=by omega
  have n3:¬(c2=k):=by omega
  clear hv t2 t3
  refine wp_region_maskB (f:=44) (n:=2) KS [1,1,1,1,1,1,2,1,1,1,1,1,1,1,2,1,1,1,1,1,1,2,1,2,1,1,1,1,1,1,2,1,1,1,1,1,1,2,1,1,1,1,0,0,0] ?_
  simp only [pickH,pickT]
  iterate 6 refine wpHeads_t ?_
  refine wpHeads_r ?_
  iterate 7 refine wpHeads_t ?_
  refine wpHeads_r ?_
  iterate 6 refine wpHeads_t ?_
  refine wpHeads_r ?_
  refine wpHeads_t ?_
  refine wpHeads_r ?_
  iterate 6 refine wpHeads_t ?_
  refine wpHeads_r ?_
  iterate 6 refine wpHeads_t ?_
  refine wpHeads_r ?_
  iterate 4 refine wpHeads_t ?_
  refine wpHeads_nil ?_
  iterate 2 (refine wpTailS_cons (fun K hK=>?_);go_simp;(first | (go_at_call 26;(with_reducible refine (q.out _ (by repeat (first | exact hb | refine bAl ?_ _ | refine bDr ?_))).mono ?_);rintro e w9 ⟨rfl,b9⟩;have B1:Below W2.heap.size W2 w9:=bCall (by repeat (first | exact bRefl _ | refine bAl ?_ _ | refine bDr ?_)) b9) | skip);refine mask_go hK KS ?_;clear hK K)
  refine wpTailS_zero ?_
  go_wp2_with fail
  refine NoPanic.normal ?_
  go_wp2_with fail
  go_ret
  exact ⟨rfl,bCall hb B1⟩
end Go.Proofs.YtoeobcmmafncmaaGreatDoor
namespace Go.Proofs.YtoeobcmmafncmaaGreatDoor
open Go Go.RowKit
theorem eqCipher (d:Nat) (a b c e:Int) (w:World):(Op.equalIn (d+1+1) 68 (.agg #[.int .i64 a,.int .i64 b]) (.agg #[.int .i64 c,.int .i64 e])).run Tryz.prog w = .ok (a==c&&b==e) w:=by
 have hS:Tryz.prog.underlying 68=some (.struct (Tryz.prog.fieldsOf 68)):=by kernel_rfl
 have hp:Tryz.prog.stoodInHeld 68=false:=by kernel_rfl
 have u3:=Tryz.underlying3
 have a3:=Tryz.isAgg3
 have z3:=Tryz.sizeOf3
 rw [run_equalIn_agg w (d+1) 68 _ _ hS hp]
 simp only [Program.fieldsOf,Tryz.underlying68]
 go_simp
 by_cases h1:a=c <;> by_cases h2:b=e <;> simp [h1,h2]
theorem eqSealed (x y:Ltr) (w:World):(Op.equalIn 10000 70 x.agg y.agg).run Tryz.prog w = .ok ((x.a0==y.a0&&x.b0==y.b0)&&((x.a1==y.a1&&x.b1==y.b1)&&(x.a2==y.a2&&x.b2==y.b2))) w:=by
 have a3:=Tryz.isAgg68
 have z3:=Tryz.sizeOf68
 unfold Ltr.agg
 rw [show (10000:Nat)=9999+1 from rfl,Op.equalIn]
 simp only [Sem.run_bind,run_underlying Tryz.underlying70,Result.andThen_ok]
 simp only [Std.Legacy.Range.forIn_eq_forIn_range',Std.Legacy.Range.size,Nat.sub_zero,Nat.add_sub_cancel,Nat.div_one,List.range'_succ,List.range'_zero,List.forIn_cons,List.forIn_nil]
 have e1:=fun (a b c e:Int)=>eqCipher 9997 a b c e w
 go_simp
 by_cases h0:x.a0=y.a0
 ·by_cases h1 : x.b0 = y.b0
  ·by_cases h2 : x.a1 = y.a1
   ·by_cases h3 : x.b1 = y.b1
    ·by_cases h4 : x.a2 = y.a2
     ·by_cases h5:x.b2=y.b2
      ·simp [h0,h1,h2,h3,h4,h5]
      ·simp [h0,h1,h2,h3,h4,h5]
     ·simp [h0,h1,h2,h3,h4]
    ·simp [h0,h1,h2,h3]
   ·simp [h0,h1,h2]
  ·simp [h0,h1]
 ·simp [h0]
def Ltr.eqB (x y:Ltr):Bool:=(x.a0==y.a0&&x.b0==y.b0)&&((x.a1==y.a1&&x.b1==y.b1)&&(x.a2==y.a2&&x.b2==y.b2))
theorem Ltr.eqB_iff {x y:Ltr} : x.eqB y=true↔x=y:=by
 cases x;cases y
 simp [Ltr.eqB,and_assoc]
theorem run_eqS (x y:Ltr) (w:World):(binOp .eql 70 x.agg y.agg).run Tryz.prog w = .ok (.bool (x.eqB y)) w:=by
 show (binOp .eql 70 x.agg y.agg).run Tryz.prog w=_
 have h:=eqSealed x y w
 unfold Ltr.agg at h ⊢
 rw [run_eql_struct,h];rfl
theorem run_neS (x y:Ltr) (w:World):(binOp .neq 70 x.agg y.agg).run Tryz.prog w = .ok (.bool (!(x.eqB y))) w:=by
 show (binOp .neq 70 x.agg y.agg).run Tryz.prog w=_
 have h:=eqSealed x y w
 unfold Ltr.agg at h ⊢
 rw [run_neq_struct,h];rfl
theorem eqItems_byts (d:Nat) (a b:List Nat) (w:World):∀ is:List Nat,(∀ i∈is,i<a.length∧i<b.length) →
  (Op.eqItems (d+1) 5 1 (byts a).toArray (byts b).toArray is).run Tryz.prog w = .ok (is.all fun i=>a.getD i 0==b.getD i 0) w
 | [],_=>by simp [Op.eqItems]
 | i::is,h=>by
  obtain ⟨h1,h2⟩:=h i (by simp)
  have ih:=eqItems_byts d a b w is (fun j hj=>h j (by simp [hj]))
  have a5:=Tryz.isAgg5
  have x1:(byts a).toArray[i*1]?=some (.int .u8 (a.getD i 0:Nat)):=by simp [byts,h1]
  have x2:(byts b).toArray[i*1]?=some (.int .u8 (b.getD i 0:Nat)):=by simp [byts,h2]
  have p1:(part 5 (byts a).toArray (i*1)).run Tryz.prog w = .ok (.int .u8 (a.getD i 0:Nat)) w:=by simp only [part,Sem.run_bind,a5,Result.andThen_ok];rw [x1];simp
  have p2:(part 5 (byts b).toArray (i*1)).run Tryz.prog w = .ok (.int .u8 (b.getD i 0:Nat)) w:=by simp only [part,Sem.run_bind,a5,Result.andThen_ok];rw [x2];simp
  simp only [Op.eqItems,Sem.run_bind,p1,p2,Result.andThen_ok,run_equalIn_int w d 5 .u8 .u8 _ _ Tryz.underlying5]
  have e:(((a.getD i 0:Nat):Int)==((b.getD i 0:Nat):Int))=(a.getD i 0==b.getD i 0):=by
   generalize a.getD i 0=m
   generalize b.getD i 0=n
   rw [Bool.eq_iff_iff,beq_iff_eq,beq_iff_eq]
   omega
  rw [List.all_cons,e]
  cases (a.getD i 0==b.getD i 0)
  ·simp
  ·simpa using ih
theorem all_eq {a b:List Nat} (ha:a.length=32) (hb:b.length=32):((List.range 32).all fun i=>a.getD i 0==b.getD i 0)=decide (a=b):=by
 rw [Bool.eq_iff_iff,List.all_eq_true,decide_eq_true_eq]
 constructor
 ·intro h
  apply List.ext_getElem?
  intro i
  rcases Nat.lt_or_ge i 32 with hi | hi
  ·have:=h i (List.mem_range.2 hi)
   rw [beq_iff_eq,List.getD_eq_getElem?_getD,List.getD_eq_getElem?_getD] at this
   rw [List.getElem?_eq_getElem (by omega),List.getElem?_eq_getElem (by omega)] at this ⊢
   exact congrArg some this
  ·rw [List.getElem?_eq_none (by omega),List.getElem?_eq_none (by omega)]
 ·rintro rfl i _
  simp
theorem run_eqD (a b:List Nat) (ha:a.length=32) (hb:b.length=32) (w:World):(binOp .eql 49 (.agg (byts a).toArray) (.agg (byts b).toArray)).run Tryz.prog w = .ok (.bool (decide (a=b))) w:=by
 obtain ⟨i0,hi⟩:∃ i,Tryz.prog.info? 5=some i:=info_of_underlying Tryz.underlying5
 have hc:Tryz.prog.cellsOf 5=1:=by kernel_rfl
 have h2:(Op.equalIn 10000 49 (.agg (byts a).toArray) (.agg (byts b).toArray)).run Tryz.prog w = .ok (decide (a=b)) w:=by
  rw [show (10000:Nat)=9998+1+1 from rfl,run_equalIn_array w (9998+1) _ _ Tryz.underlying49 hi,hc,eqItems_byts 9998 a b w _ (by intro i hi;have:=List.mem_range.1 hi;omega),all_eq ha hb]
 rw [run_eql_struct,h2];rfl
end Go.Proofs.YtoeobcmmafncmaaGreatDoor
namespace Go.Proofs.YtoeobcmmafncmaaGreatDoor
open Go.RowKit
def leadsB (key:Int) (a b:Ltr) (r0 r1 r2:Int):Bool:=decide (againE key a=0)&&(againV key a r0 r1 r2).eqB b
theorem pa_leads (key:Int) (a b:Ltr) (r0 r1 r2:Int) (W:World) :
  Calls Tryz.prog 97 #[.int .i64 key,a.agg,b.agg,.agg #[.int .i64 r0,.int .i64 r1,.int .i64 r2]] W (Ret (.bool (leadsB key a b r0 r1 r2)) W):=by
 obtain ⟨W3,hW3⟩:∃ W3,W3=((W.alloc (.cells #[.int .i64 a.a0,.int .i64 a.b0,.int .i64 a.a1,.int .i64 a.b1,.int .i64 a.a2,.int .i64 a.b2] 70)).alloc (.cells #[.int .i64 b.a0,.int .i64 b.b0,.int .i64 b.a1,.int .i64 b.b1,.int .i64 b.a2,.int .i64 b.b2] 70)).alloc (.cells #[.int .i64 r0,.int .i64 r1,.int .i64 r2] 27):=⟨_,rfl⟩
 have h3:Below W.heap.size W W3:=by rw [hW3];exact bAl (bAl (bAl (bRefl W) _) _) _
 have BA:Blk W3 W.heap.size 70 #[.int .i64 a.a0,.int .i64 a.b0,.int .i64 a.a1,.int .i64 a.b1,.int .i64 a.a2,.int .i64 a.b2]:=by rw [hW3];exact ((Blk.new _ _ _ _ rfl).alloc _).alloc _
 have BB:Blk W3 (W.heap.size+1) 70 #[.int .i64 b.a0,.int .i64 b.b0,.int .i64 b.a1,.int .i64 b.b1,.int .i64 b.a2,.int .i64 b.b2]:=by rw [hW3];exact (Blk.new _ _ _ _ (by simp)).alloc _
 have BR:Blk W3 (W.heap.size+1+1) 27 #[.int .i64 r0,.int .i64 r1,.int .i64 r2]:=by rw [hW3];exact Blk.new _ _ _ _ (by simp)
 have q:=el_again key a r0 r1 r2 W3
 obtain ⟨v,hv⟩:∃ v,v=leadsB key a b r0 r1 r2:=⟨_,rfl⟩
 rw [←hv]
 obtain ⟨k0,k1,k2,k3,k4,k5⟩:=BA.six
 obtain ⟨m0,m1,m2⟩:=three BR
 unfold leadsB at hv
 go_enter Tryz.func97,Tryz.ntmps97
 unfold Ltr.agg at q ⊢
 go_upto_region 1 with fail
 rw [←hW3]
 clear hW3
 have Hv:=Lib.hid hv
 clear hv
 generalize againV key a r0 r1 r2=y at *
 generalize againE key a=e0 at *
 go_wp2_with fail
 (with_reducible refine q.mono ?_)
 rintro e w4 ⟨rfl,b4⟩
 clear q k0 k1 k2 k3 k4 k5 m0 m1 m2
 replace BB:=BB.below b4 BB.lt
 replace h3:=bCall h3 b4
 by_cases he:e0=0
 ·have Hv2:Hid (v=y.eqB b):=by show _=_;rw [Hv.out,decide_eq_true he];rfl
  subst he
  have hq:=run_eqS y b
  unfold Ltr.agg at hq
  generalize y.eqB b=r at *
  obtain ⟨k0,k1,k2,k3,k4,k5⟩:=(BB.alloc (.cells #[.int .i64 y.a0,.int .i64 y.b0,.int .i64 y.a1,.int .i64 y.b1,.int .i64 y.a2,.int .i64 y.b2] 70)).six
  have h4:=bAl h3 (.cells #[.int .i64 y.a0,.int .i64 y.b0,.int .i64 y.a1,.int .i64 y.b1,.int .i64 y.a2,.int .i64 y.b2] 70)
  clear Hv
  go_wp2_with fail
  go_ret
  exact ⟨ret_bool Hv2.out.symm,h4⟩
 ·have t:(e0==0)=false:=by rw [beq_eq_false_iff_ne];exact he
  have Hv2:Hid (v=false):=by show _=_;rw [Hv.out,decide_eq_false he];rfl
  clear he
  go_wp2_with fail
  go_ret
  exact ⟨ret_bool Hv2.out.symm,bAl h3 _⟩
end Go.Proofs.YtoeobcmmafncmaaGreatDoor

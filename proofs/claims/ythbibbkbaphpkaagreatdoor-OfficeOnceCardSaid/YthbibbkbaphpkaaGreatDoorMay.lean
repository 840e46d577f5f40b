/- frankinglaw49.sane, walked. -/
import Derived.Test.YthbibbkbaphpkaaGreatDoorMaw
import Derived.Test.YthbibbkbaphpkaaGreatDoorMax
set_option maxHeartbeats 16000000
set_option maxRecDepth 1000000
namespace Go.Proofs.YthbibbkbaphpkaaGreatDoor
open _root_.Go.Proofs.Tryz
open Go Go.RowKit
theorem TF:IL 3 7=#[.int .i64 3,.int .i64 7,.slice none 0 0,.slice none 0 0]∧(uo 3 7).err=0:=⟨by unfold IL;rw [if_pos (show (uo 3 7).err=0 from Tf)],Tf⟩
theorem TG:IL 24 5=#[.int .i64 0,.int .i64 0,.slice none 0 0,.slice none 0 0]∧(uo 24 5).err=490:=⟨by unfold IL;rw [if_neg (by rw [show (uo 24 5).err=490 from VR];omega)],VR⟩
theorem TI:IL 0 0=#[.int .i64 0,.int .i64 0,.slice none 0 0,.slice none 0 0]∧(uo 0 0).err=490:=⟨by unfold IL;rw [if_neg (by rw [show (uo 0 0).err=490 from Td];omega)],Td⟩
theorem Lt (w:World):(Instr.makeSlice 37 (.int .i64 1) (.int .i64 1)).run prog w = .ok (.slice (some ⟨w.heap.size,0,none⟩) 1 1) (w.alloc (.cells (kC (fB,fB)).toArray 236)):=by kernel_rfl
theorem Aj {w:World} {B:Nat} : LksAt w B none [] []:=⟨⟨rfl,fun h=>by cases h⟩,rfl,fun k x h=>by simp at h,fun x h=>by cases h⟩
theorem xE {w:World} {B:Nat} : Rd w B 32 none 0 (([]:List (List Nat)).flatMap ag):=⟨rfl,fun h=>by cases h⟩
theorem TJ:hS.ok:=by
 have i:∀ k:Int,0≤k→k≤100→inI k:=fun k h1 h2=>by unfold inI;omega
 exact ⟨i _ (by decide) (by decide),i _ (by decide) (by decide),i _ (by decide) (by decide),i _ (by decide) (by decide),i _ (by decide) (by decide),i _ (by decide) (by decide),i _ (by decide) (by decide),sU,i _ (by decide) (by decide),i _ (by decide) (by decide),i _ (by decide) (by decide)⟩
theorem yF:xS.chain.length=1∧xS.used.length=1:=by
 have hU:mM oS [lO]=some [kD lO]:=rfl;constructor
 ·show (oS.chain++[_]).length=1
  rfl
 ·show ((mM oS [lO]).getD []).length=1
  rw [hU];rfl
theorem Vs {w:World} {g0 g1 g2 g3 g4:Nat} (B0:Blk w g0 3 #[.int .i64 0]) (B1:Blk w g1 3 #[.int .i64 0]) (B2:Blk w g2 94 #[.int .i64 4,.int .i64 5,.int .i64 6]) (B3:Blk w g3 94 #[.int .i64 7,.int .i64 8,.int .i64 9])
  (B4:Blk w g4 236 (kC (fB,fB)).toArray):TurnAt w w.heap.size ⟨some ⟨g0,0,none⟩,some ⟨g1,0,none⟩,some ⟨g2,0,none⟩,some ⟨g3,0,none⟩,some ⟨g4,0,none⟩,1,1,1,1,1⟩ tO:=by
 have i:∀ k:Int,0≤k→k≤10→inI k:=fun k h1 h2=>by unfold inI;omega
 refine ⟨(RdT.of_blk (n:=1) (xs:=ints [0]) B0 rfl).rd,(RdT.of_blk (n:=1) (xs:=ints [0]) B1 rfl).rd,(RdT.of_blk (n:=1) (sz:=3) (xs:=[((4:Int),(5:Int),(6:Int))].flatMap Tri.cl) B2 rfl).rd,(RdT.of_blk (n:=1) (sz:=3) (xs:=[((7:Int),(8:Int),(9:Int))].flatMap Tri.cl) B3 rfl).rd,
  (RdT.of_blk (n:=1) (sz:=64) (xs:=[(fB,fB)].flatMap kC) (by simpa using B4) rfl).rd,?_,?_,?_,?_,?_⟩
 ·intro x hx;obtain rfl:x=0:=by simpa [tO] using hx
  exact i 0 (by omega) (by omega)
 ·intro x hx;obtain rfl:x=0:=by simpa [tO] using hx
  exact i 0 (by omega) (by omega)
 ·intro x hx;obtain rfl:x=(4,5,6):=by simpa [tO] using hx
  exact ⟨i _ (by decide) (by decide),i _ (by decide) (by decide),i _ (by decide) (by decide)⟩
 ·intro x hx;obtain rfl:x=(7,8,9):=by simpa [tO] using hx
  exact ⟨i _ (by decide) (by decide),i _ (by decide) (by decide),i _ (by decide) (by decide)⟩
 ·intro x hx;obtain rfl:x=(fB,fB):=by simpa [tO] using hx
  exact ⟨sU,sU⟩
theorem WG:hS4.ok:=by
 have i:∀ k:Int,0≤k→k≤100→inI k:=fun k h1 h2=>by unfold inI;omega
 exact ⟨i _ (by decide) (by decide),i _ (by decide) (by decide),i _ (by decide) (by decide),i _ (by decide) (by decide),i _ (by decide) (by decide),i _ (by decide) (by decide),i _ (by decide) (by decide),sU,i _ (by decide) (by decide),i _ (by decide) (by decide),i _ (by decide) (by decide)⟩
theorem TK:hS.cl.toArray.setIfInBounds 4 (.int .i64 4)=hS4.cl.toArray:=by
 apply Array.toList_inj.1;rw [Array.toList_setIfInBounds];rfl
def TL:TS:=⟨none,none,none,none,none,0,0,0,0,0⟩
theorem TM {w:World} {B:Nat} : TurnAt w B TL oL :=
 ⟨⟨rfl,fun h=>by cases h⟩,⟨rfl,fun h=>by cases h⟩,⟨rfl,fun h=>by cases h⟩,⟨rfl,fun h=>by cases h⟩,⟨rfl,fun h=>by cases h⟩,fun x hx=>(by cases hx),fun x hx=>(by cases hx),fun x hx=>(by cases hx),fun x hx=>(by cases hx),fun x hx=>(by cases hx)⟩
theorem xG {A1 A2:Option Addr} {c1 c2:Nat} {bare proofs:List Ltr} {s:MS} {m:Mx} {h:Hd} : (sQ A1 A2 c1 c2 bare proofs s m h)[4]?=some (.slice s.a2 m.out.length s.c2):=rfl
theorem PV {A1 A2:Option Addr} {c1 c2:Nat} {bare proofs:List Ltr} {s:MS} {m:Mx} {h:Hd} : (sQ A1 A2 c1 c2 bare proofs s m h)[13]?=some (.int .i64 h.many):=rfl
theorem Jc (rest:Int) (h:Hd) (ho:h.ok) (W:World) (hG:ShaG W):Calls prog 13 #[.agg #[.int .i64 3,.int .i64 7,.slice none 0 0,.slice none 0 0],.int .i64 rest,.agg h.cl.toArray,.slice none 0 0,.agg #[.slice none 0 0,.slice none 0 0,.slice none 0 0,.slice none 0 0,.slice none 0 0]] W (RetWork oS rest h [] oL W) :=
 Ai oS none none none 0 0 0 [] rest h [] TL oL W Aj (aao _) (aad _) (fun _=>rfl) xE (fun x hx=>by cases hx) (aao _) (fun _=>⟨rfl,rfl⟩) ho
  ⟨rfl,fun h=>by cases h⟩ (aao _) (fun x hx=>by cases hx) TM hG
theorem TN {A1 A2:Option Addr} {c1 c2:Nat} {bare proofs:List Ltr} {s:MS} {m:Mx} {h:Hd} (v:Int):(sQ A1 A2 c1 c2 bare proofs s m h).setIfInBounds 13 (.int .i64 v)=sQ A1 A2 c1 c2 bare proofs s m { h with many:=v }:=by
 apply Array.toList_inj.1;rw [Array.toList_setIfInBounds];rfl
theorem Vt {w:World} {B:Nat} : JwAt w B bC.toArray vw :=
 ⟨none,none,0,0,⟨none,none,none,none,none,0,0,0,0,0⟩,rfl,⟨rfl,fun h=>by cases h⟩,⟨rfl,fun h=>by cases h⟩,⟨⟨rfl,fun h=>by cases h⟩,⟨rfl,fun h=>by cases h⟩,⟨rfl,fun h=>by cases h⟩,⟨rfl,fun h=>by cases h⟩,⟨rfl,fun h=>by cases h⟩,fun d hd=>(by cases hd),fun d hd=>(by cases hd)⟩,qg⟩
theorem vG {w:World} {g1 g2:Nat} {L:Ltr} {b:Int} {J:Array Value} {j:Jw} {D:Option Addr} {dc:Nat} {l:List Opn} (hG:ShaG w) (B1:Blk w g1 63 #[.int .i64 L.a0,.int .i64 L.b0,.int .i64 L.a1,.int .i64 L.b1,.int .i64 L.a2,.int .i64 L.b2]) (B2:Blk w g2 3 #[.int .i64 b]) (hJ:JwAt w w.heap.size J j)
  (hD:Rd w w.heap.size 36 D l.length (l.flatMap Opn.cl)) (hok:∀ o∈l,o.ok) (hl:l.length=1) (hlen:j.bare.length=1∧j.proofs.length=1∧j.mix.inn.length=1∧j.mix.mid.length=1∧j.mix.out.length=1∧j.mix.left.length=1∧j.mix.right.length=1) :
  Calls prog 20 #[.int .i64 16384,.int .i64 16,.slice (some ⟨g1,0,none⟩) 1 1,.agg J,.slice (some ⟨g2,0,none⟩) 1 1,.slice D 1 dc] w (Ret (.int .i64 (jc 16384 16 [L] j [b] l)) w):=by
 obtain ⟨l1,l2,l3,l4,l5,l6,l7⟩:=hlen
 have h:=xC 16384 16 ⟨by omega,by omega⟩ (some ⟨g1,0,none⟩) (some ⟨g2,0,none⟩) D 1 1 dc [L] J j [b] l w (RdT.of_blk (n:=1) (sz:=6) (xs:=[L].flatMap Ltr.cl) B1 rfl).rd hJ (RdT.of_blk (n:=1) (xs:=ints [b]) B2 rfl).rd hD hok
  ⟨by simp,by omega,by omega,by simp,by omega⟩ ⟨by omega,by omega,by omega,by omega,by omega⟩ hG
 rw [hl] at h;exact h
theorem yG:kS.bare.length=1∧kS.proofs.length=1∧kS.mix.inn.length=1∧kS.mix.mid.length=1∧kS.mix.out.length=1∧kS.mix.left.length=1∧kS.mix.right.length=1:=by
 have hb:(bu oS.secret [lO]).length=1:=dJ _ _;refine ⟨hb,?_,hb,?_,?_,?_,?_⟩
 ·show (nV oS.secret [lO]).length=1
  simp [nV]
 ·show (tO.mid 16 (bu oS.secret [lO]) (bu oS.secret [lO]).length).length=1
  rw [Trn.mid_length,hb]
 ·show (tO.out 16 (bu oS.secret [lO]) (bu oS.secret [lO]).length).length=1
  rw [Trn.out_length,hb]
 ·show (Trn.coms _ _ (bu oS.secret [lO]).length).length=1
  simp [Trn.coms,hb]
 ·show (Trn.coms _ _ (bu oS.secret [lO]).length).length=1
  simp [Trn.coms,hb]
theorem Vu:kS.hand.many=1:=by
 have h1:kS.hand.many=((tO.out 16 (bu oS.secret [lO]) (bu oS.secret [lO]).length).length:Int):=rfl;rw [h1,Trn.out_length,dJ];rfl
theorem Vw (W:World) (hG:ShaG W):Calls prog 9 #[] W (Ret (.bool true) W):=by
 have q1:=KP 3 7 W hG;rw [TF.1,TF.2] at q1;go_enter func9,ntmps9;go_wp2_with fail;refine q1.mono ?_;rintro e w1 ⟨rfl,hb⟩;clear q1;go_upto_region 2 with fail;have h1:W.heap.size≤w1.heap.size:=hb.size;have BO:=Blk.new w1 25 #[.int .i64 3,.int .i64 7,.slice none 0 0,.slice none 0 0] _ rfl;replace hb:=bAl hb (.cells #[.int .i64 3,.int .i64 7,.slice none 0 0,.slice none 0 0] 25);generalize w1.alloc (.cells #[.int .i64 3,.int .i64 7,.slice none 0 0,.slice none 0 0] 25)=w2 at *;generalize w1.heap.size=ob at *;have q1:=KP 24 5 w2 (hG.below hb);rw [TG.1,TG.2] at q1;go_wp2_with fail;refine q1.mono ?_;rintro e w3 ⟨rfl,b3⟩;clear q1;replace BO:=BO.below b3 BO.lt;replace hb:=ah hb b3;clear b3;go_upto_region 3 with fail;replace BO:=BO.alloc (.cells #[.int .i64 0,.int .i64 0,.slice none 0 0,.slice none 0 0] 25);replace hb:=bAl hb (.cells #[.int .i64 0,.int .i64 0,.slice none 0 0,.slice none 0 0] 25);clear w2;generalize w3.alloc (.cells #[.int .i64 0,.int .i64 0,.slice none 0 0,.slice none 0 0] 25)=w2 at *;generalize w3.heap.size=xb2 at *;have q1:=KP 0 0 w2 (hG.below hb);rw [TI.1,TI.2] at q1;go_wp2_with fail;refine q1.mono ?_;rintro e w3 ⟨rfl,b3⟩;clear q1;replace BO:=BO.below b3 BO.lt;replace hb:=ah hb b3;clear b3;go_upto_region 4 with fail;replace BO:=BO.alloc (.cells #[.int .i64 0,.int .i64 0,.slice none 0 0,.slice none 0 0] 25);replace hb:=bAl hb (.cells #[.int .i64 0,.int .i64 0,.slice none 0 0,.slice none 0 0] 25);clear w2;generalize w3.alloc (.cells #[.int .i64 0,.int .i64 0,.slice none 0 0,.slice none 0 0] 25)=w2 at *
 generalize w3.heap.size=xb3 at *;have q1:=pM 7 w2;rw [Wy.1,Wy.2] at q1;go_wp2_with fail;refine q1.mono ?_;rintro e w3 ⟨rfl,b3⟩;clear q1;replace BO:=BO.below b3 BO.lt;replace hb:=ah hb b3;clear b3;go_upto_region 5 with fail;have q1:=UF (some ⟨w3.heap.size,0,none⟩) 2 2 [16384,16] (w3.alloc (.cells #[.int .i64 16384,.int .i64 16] 3)) (Rd.new _ (ints [16384,16]) _ 1 2 _ rfl rfl) (by decide);rw [NK.1,NK.2] at q1;go_wp2_with fail;refine q1.mono ?_;rintro e w4 ⟨rfl,rfl⟩;clear q1;replace BO:=BO.alloc (.cells #[.int .i64 16384,.int .i64 16] 3);replace hb:=bAl hb (.cells #[.int .i64 16384,.int .i64 16] 3);generalize w3.alloc (.cells #[.int .i64 16384,.int .i64 16] 3)=w4 at *;go_upto_region 6 with fail;obtain ⟨L,hL⟩:∃ L,Hid (lO=L):=⟨_,aab rfl⟩
 have hLo:Hid L.ok:=aab (by rw [←hL.out];exact FX uk);have q1:=UI jO 5 6 7 1 2 3 w4;rw [NL.1,NL.2,hL.out] at q1;unfold Ltr.agg at q1;go_wp2_with fail;refine q1.mono ?_;rintro e w5 ⟨rfl,b5⟩;clear q1;replace BO:=BO.below b5 BO.lt;replace hb:=ah hb b5;clear b5;go_upto_region 7 with fail;have BL:=Blk.new w5 63 #[.int .i64 L.a0,.int .i64 L.b0,.int .i64 L.a1,.int .i64 L.b1,.int .i64 L.a2,.int .i64 L.b2] _ rfl;replace BO:=BO.alloc (.cells #[.int .i64 L.a0,.int .i64 L.b0,.int .i64 L.a1,.int .i64 L.b1,.int .i64 L.a2,.int .i64 L.b2] 63);replace hb:=bAl hb (.cells #[.int .i64 L.a0,.int .i64 L.b0,.int .i64 L.a1,.int .i64 L.b1,.int .i64 L.a2,.int .i64 L.b2] 63);generalize w5.alloc (.cells #[.int .i64 L.a0,.int .i64 L.b0,.int .i64 L.a1,.int .i64 L.b1,.int .i64 L.a2,.int .i64 L.b2] 63)=w6 at *;generalize w5.heap.size=lb at *;have hmk:=Lt;go_upto_region 8 with fail;clear hmk;obtain ⟨TC,hTC0⟩:∃ TC:Array Value,TC=#[.slice (some ⟨w6.heap.size,0,none⟩) 1 1,.slice (some ⟨w6.heap.size+1,0,none⟩) 1 1,.slice (some ⟨w6.heap.size+1+1,0,none⟩) 1 1,.slice (some ⟨w6.heap.size+1+1+1,0,none⟩) 1 1,.slice (some ⟨w6.heap.size+1+1+1+1,0,none⟩) 1 1]:=⟨_,rfl⟩
 rw [←hTC0];have hTC:=aab hTC0;clear hTC0;have b67:=bAl (bAl (bAl (bAl (bAl (bAl (aj w6) (.cells #[.int .i64 0] 3)) (.cells #[.int .i64 0] 3)) (.cells #[.int .i64 4,.int .i64 5,.int .i64 6] 94)) (.cells #[.int .i64 7,.int .i64 8,.int .i64 9] 94)) (.cells (kC (fB,fB)).toArray 236)) (.cells TC 39);have B0:=(((((Blk.new w6 3 #[.int .i64 0] _ rfl).alloc (.cells #[.int .i64 0] 3)).alloc (.cells #[.int .i64 4,.int .i64 5,.int .i64 6] 94)).alloc (.cells #[.int .i64 7,.int .i64 8,.int .i64 9] 94)).alloc (.cells (kC (fB,fB)).toArray 236)).alloc (.cells TC 39);have B1:=((((Blk.new (w6.alloc (.cells #[.int .i64 0] 3)) 3 #[.int .i64 0] (w6.heap.size+1) (by simp)).alloc (.cells #[.int .i64 4,.int .i64 5,.int .i64 6] 94)).alloc (.cells #[.int .i64 7,.int .i64 8,.int .i64 9] 94)).alloc (.cells (kC (fB,fB)).toArray 236)).alloc (.cells TC 39);have B2:=(((Blk.new ((w6.alloc (.cells #[.int .i64 0] 3)).alloc (.cells #[.int .i64 0] 3)) 94 #[.int .i64 4,.int .i64 5,.int .i64 6] (w6.heap.size+1+1) (by simp)).alloc (.cells #[.int .i64 7,.int .i64 8,.int .i64 9] 94)).alloc (.cells (kC (fB,fB)).toArray 236)).alloc (.cells TC 39);have B3:=((Blk.new (((w6.alloc (.cells #[.int .i64 0] 3)).alloc (.cells #[.int .i64 0] 3)).alloc (.cells #[.int .i64 4,.int .i64 5,.int .i64 6] 94)) 94 #[.int .i64 7,.int .i64 8,.int .i64 9] (w6.heap.size+1+1+1) (by simp)).alloc (.cells (kC (fB,fB)).toArray 236)).alloc (.cells TC 39);have B4:=(Blk.new ((((w6.alloc (.cells #[.int .i64 0] 3)).alloc (.cells #[.int .i64 0] 3)).alloc (.cells #[.int .i64 4,.int .i64 5,.int .i64 6] 94)).alloc (.cells #[.int .i64 7,.int .i64 8,.int .i64 9] 94)) 236 (kC (fB,fB)).toArray (w6.heap.size+1+1+1+1) (by simp)).alloc (.cells TC 39)
 have BT:=Blk.new (((((w6.alloc (.cells #[.int .i64 0] 3)).alloc (.cells #[.int .i64 0] 3)).alloc (.cells #[.int .i64 4,.int .i64 5,.int .i64 6] 94)).alloc (.cells #[.int .i64 7,.int .i64 8,.int .i64 9] 94)).alloc (.cells (kC (fB,fB)).toArray 236)) 39 TC (w6.heap.size+1+1+1+1+1) (by simp);replace BO:=BO.below b67 BO.lt;replace BL:=BL.below b67 BL.lt;replace hb:=ah hb b67;clear b67;generalize (((((w6.alloc (.cells #[.int .i64 0] 3)).alloc (.cells #[.int .i64 0] 3)).alloc (.cells #[.int .i64 4,.int .i64 5,.int .i64 6] 94)).alloc (.cells #[.int .i64 7,.int .i64 8,.int .i64 9] 94)).alloc (.cells (kC (fB,fB)).toArray 236)).alloc (.cells TC 39)=w7 at *;generalize w6.heap.size=N at *;have TA:Hid (TurnAt w7 w7.heap.size ⟨some ⟨N,0,none⟩,some ⟨N+1,0,none⟩,some ⟨N+1+1,0,none⟩,some ⟨N+1+1+1,0,none⟩,some ⟨N+1+1+1+1,0,none⟩,1,1,1,1,1⟩ tO):=aab (Vs B0 B1 B2 B3 B4);clear B0 B1 B2 B3 B4;generalize N+1+1+1+1+1=tb at *
 have q8:∀ (w2:World) (gl:Nat),Below w7.heap.size w7 w2→Blk w2 gl 63 #[.int .i64 L.a0,.int .i64 L.b0,.int .i64 L.a1,.int .i64 L.b1,.int .i64 L.a2,.int .i64 L.b2] →
   Calls prog 13 #[.agg #[.int .i64 3,.int .i64 7,.slice none 0 0,.slice none 0 0],.int .i64 16,.agg hS.cl.toArray,.slice (some ⟨gl,0,none⟩) 1 1,.agg TC] w2 (RetWork oS 16 hS [L] tO w2):=fun w2 gl b B=>by
  have h:=Ai oS none none (some ⟨gl,0,none⟩) 0 0 1 [] 16 hS [L] _ tO w2 Aj (aao _) (aad _) (fun _=>rfl) xE (fun x hx=>by cases hx) (aao _) (fun _=>⟨rfl,rfl⟩) TJ
   (RdT.of_blk (n:=1) (sz:=6) (xs:=[L].flatMap Ltr.cl) B rfl).rd (show 1≤100000 by decide) (fun x hx=>by rw [List.mem_singleton.1 hx];exact hLo.out) ((TA.out.below b).more b.size) (hG.below (ah hb b))
  rw [hTC.out];exact h
 replace q8:=aab q8
 refine oW [72,73,74,75,76,77,71,78,79,80,14,15,16] [[],[],[],[2],[],[0,1,3,4,1],[5],[6],[6],[6],[],[],[10,7,5,0,1,2,3,4,5,6,7,10,11],[11,8,12,0,1,2,3,4,5,6,7,8,10,11,12],[9,13,0,1,2,3,4,5,6,7,8,9,10,11,12,13]]
  (fun L0 vs wq=>∃ v0 v1 v2 v3 v4 v5 v6 v7 v8 v9 v10 v11 v14 X J g1 g2,vs=[v0,v1,v2,v3,v4,v5,v6,v7,v8,v9,v10,v11,v14]∧JW oS 16 hS [L] tO #[.int .i64 3,.int .i64 7,.slice none 0 0,.slice none 0 0] #[.int .i64 L.a0,.int .i64 L.b0,.int .i64 L.a1,.int .i64 L.b1,.int .i64 L.a2,.int .i64 L.b2] TC w7 (L0 0) (L0 1) (L0 2) (L0 3) (L0 4) (L0 5) (L0 6) (L0 7) (L0 8) (L0 9) (L0 10) (L0 11) (L0 12) (L0 13) (L0 14) v0 v1 v2 v3 v4 v5 v6 v7 v8 v9 v10 v11 v14 X J g1 g2 wq) [undef,undef,undef,undef,undef,undef,undef,undef,undef,undef,undef,undef,undef] ?_ ?_ ?_ ?_
 ·simp only [dE,Act.put,aaf,aai,aah]
 ·exact ⟨_,_,_,_,_,_,_,_,_,_,_,_,_,#[],#[],0,0,rfl,JW.start (bDr (aj _))⟩
 ·intro i oo L0 vs w2 ho hL hd _ hJ Kq hK
  have hi:i<15:=(aag.1 ho).1;obtain ⟨v0,v1,v2,v3,v4,v5,v6,v7,v8,v9,v10,v11,v14,X,J,g1,g2,rfl,H⟩:=hJ;obtain rfl | rfl | rfl | rfl | rfl | rfl | rfl | rfl | rfl | rfl | rfl | rfl | rfl | rfl | rfl:i=0∨i=1∨i=2∨i=3∨i=4∨i=5∨i=6∨i=7∨i=8∨i=9∨i=10∨i=11∨i=12∨i=13∨i=14:=by omega
  ·-- 0
   injection (show some _=some oo from ho) with ho
   subst ho;have BB:=BO.below H.below BO.lt;have c0:=BB.cell 0;have c1:=BB.cell 1;have c2:=BB.cell 2;have c3:=BB.cell 3;have hk:=fun (wq:World) h=>hK (.agg #[.int .i64 3,.int .i64 7,.slice none 0 0,.slice none 0 0]) wq ⟨_,_,_,_,_,_,_,_,_,_,_,_,_,X,J,g1,g2,rfl,h⟩;clear hK ho;simp only [dE,Act.put,aaf,aai,aah] at hk ⊢;go_simp;exact hk _ ({ H with p0:=fun _=>rfl })
  ·-- 1
   injection (show some _=some oo from ho) with ho
   subst ho;have hk:=fun (wq:World) h=>hK (.agg hS.cl.toArray) wq ⟨_,_,_,_,_,_,_,_,_,_,_,_,_,X,J,g1,g2,rfl,h⟩;clear hK ho;simp only [dE,Act.put,aaf,aai,aah] at hk ⊢;go_simp;go_at_call 44;refine (Ah w2).mono ?_;rintro e w3 ⟨rfl,b3⟩;exact hk _ ({ H.grow b3 with p1:=fun _=>rfl })
  ·-- 2
   injection (show some _=some oo from ho) with ho
   subst ho;have BB:=BL.below H.below BL.lt;have c0:=BB.cell 0;have c1:=BB.cell 1;have c2:=BB.cell 2;have c3:=BB.cell 3;have c4:=BB.cell 4;have c5:=BB.cell 5;have hk:=fun (wq:World) h=>hK (.agg #[.int .i64 L.a0,.int .i64 L.b0,.int .i64 L.a1,.int .i64 L.b1,.int .i64 L.a2,.int .i64 L.b2]) wq ⟨_,_,_,_,_,_,_,_,_,_,_,_,_,X,J,g1,g2,rfl,h⟩;clear hK ho;simp only [dE,Act.put,aaf,aai,aah] at hk ⊢;go_simp;exact hk _ ({ H with p2:=fun _=>rfl })
  ·-- 3
   injection (show some _=some oo from ho) with ho
   subst ho;obtain rfl:=H.p2 (hd 2 (by decide));have hk:=fun (wq:World) h=>hK (.slice (some ⟨w2.heap.size,0,none⟩) 1 1) wq ⟨_,_,_,_,_,_,_,_,_,_,_,_,_,X,J,g1,g2,rfl,h⟩;clear hK ho;simp only [dE,Act.put,aaf,aai,aah] at hk ⊢;go_simp;exact hk _ (H.s3)
  ·-- 4
   injection (show some _=some oo from ho) with ho
   subst ho;have BB:=BT.below H.below BT.lt;rw [hTC.out] at BB;have c0:=BB.cell 0;have c1:=BB.cell 1;have c2:=BB.cell 2;have c3:=BB.cell 3;have c4:=BB.cell 4;have hk:=fun (wq:World) h=>hK (.agg TC) wq ⟨_,_,_,_,_,_,_,_,_,_,_,_,_,X,J,g1,g2,rfl,h⟩;clear hK ho;simp only [dE,Act.put,aaf,aai,aah] at hk ⊢;go_simp;rw [←hTC.out];exact hk _ ({ H with p4:=fun _=>rfl })
  ·-- 5
   injection (show some _=some oo from ho) with ho
   subst ho;obtain rfl:=H.p0 (hd 0 (by decide));obtain rfl:=H.p1 (hd 1 (by decide));obtain ⟨gl,rfl,Bl⟩:=H.p3 (hd 3 (by decide));obtain rfl:=H.p4 (hd 4 (by decide));rw [hL] at H;have hk:=fun (wq:World) X J g1 g2 h=>hK (.tuple #[.agg X,.agg J,.int .i64 (dh oS 16 hS [L] tO)]) wq ⟨_,_,_,_,_,_,_,_,_,_,_,_,_,X,J,g1,g2,rfl,h⟩;clear hK ho;have q:=q8.out w2 gl H.below Bl;simp only [dE,Act.put,aaf,aai,aah] at hk ⊢;go_simp;go_at_call 13;refine q.mono ?_;rintro e w3 hr;obtain ⟨b3,X',J',rfl,G⟩:=GW.of_ret hr (.inl rfl);exact hk _ _ _ _ _ (H.s5 b3 G)
  ·-- 6
   injection (show some _=some oo from ho) with ho
   subst ho;have h5:=hd 5 (by decide);obtain ⟨rfl,_⟩:=H.p5 h5;have hk:=fun (wq:World) h=>hK (.tuple #[.agg X,.agg J,.int .i64 (dh oS 16 hS [L] tO)]) wq ⟨_,_,_,_,_,_,_,_,_,_,_,_,_,X,J,g1,g2,rfl,h⟩;clear hK ho;simp only [dE,Act.put,aaf,aai,aah] at hk ⊢;go_simp;exact hk _ ({ H with p6:=fun _=>rfl,c6:=fun _=>h5,c7:=fun _=>rfl,c8:=fun _=>rfl,c9:=fun _=>rfl })
  ·-- 7
   injection (show some _=some oo from ho) with ho
   subst ho;have h6:=hd 6 (by decide);obtain rfl:=H.p6 h6;have hk:=fun (wq:World) h=>hK (.agg X) wq ⟨_,_,_,_,_,_,_,_,_,_,_,_,_,X,J,g1,g2,rfl,h⟩;clear hK ho;simp only [dE,Act.put,aaf,aai,aah] at hk ⊢;go_simp;exact hk _ ({ H with p7:=fun _=>rfl,c7:=fun _=>h6,c12:=fun h=>⟨rfl,(H.c12 h).2⟩ })
  ·-- 8
   injection (show some _=some oo from ho) with ho
   subst ho;have h6:=hd 6 (by decide);obtain rfl:=H.p6 h6;have hk:=fun (wq:World) h=>hK (.agg J) wq ⟨_,_,_,_,_,_,_,_,_,_,_,_,_,X,J,g1,g2,rfl,h⟩;clear hK ho;simp only [dE,Act.put,aaf,aai,aah] at hk ⊢;go_simp;exact hk _ ({ H with p8:=fun _=>rfl,c8:=fun _=>h6,c13:=fun h=>⟨rfl,(H.c13 h).2⟩ })
  ·-- 9
   injection (show some _=some oo from ho) with ho
   subst ho;have h6:=hd 6 (by decide);obtain rfl:=H.p6 h6;have hk:=fun (wq:World) h=>hK (.int .i64 (dh oS 16 hS [L] tO)) wq ⟨_,_,_,_,_,_,_,_,_,_,_,_,_,X,J,g1,g2,rfl,h⟩;clear hK ho;simp only [dE,Act.put,aaf,aai,aah] at hk ⊢;go_simp;exact hk _ ({ H with p9:=fun _=>rfl,c9:=fun _=>h6,c14:=fun _=>rfl })
  ·-- 10
   injection (show some _=some oo from ho) with ho
   subst ho;rw [hL] at H;have hk:=fun (wq:World) g1 h=>hK (.pointer (some ⟨g1,0,none⟩)) wq ⟨_,_,_,_,_,_,_,_,_,_,_,_,_,X,J,g1,g2,rfl,h⟩;clear hK ho;simp only [dE,Act.put,aaf,aai,aah] at hk ⊢;go_simp;exact hk _ _ (H.s10)
  ·-- 11
   injection (show some _=some oo from ho) with ho
   subst ho;rw [hL] at H;have hk:=fun (wq:World) g2 h=>hK (.pointer (some ⟨g2,0,none⟩)) wq ⟨_,_,_,_,_,_,_,_,_,_,_,_,_,X,J,g1,g2,rfl,h⟩;clear hK ho;simp only [dE,Act.put,aaf,aai,aah] at hk ⊢;go_simp;exact hk _ _ (H.s11)
  ·-- 12
   injection (show some _=some oo from ho) with ho
   subst ho;have h7:=hd 7 (by decide);have h10:=hd 10 (by decide);obtain rfl:=H.p7 h7;have BB:=(H.p10 h10).2.2;have hv:=(H.p10 h10).1;subst hv;rw [hL] at BB;replace BB:Blk w2 g1 25 bK:=BB;have G:=(H.p5 (hd 5 (by decide))).2;rw [h7,h10,hL] at H;have hk:=fun (wq:World) (h:JW oS 16 hS [L] tO #[.int .i64 3,.int .i64 7,.slice none 0 0,.slice none 0 0] #[.int .i64 L.a0,.int .i64 L.b0,.int .i64 L.a1,.int .i64 L.b1,.int .i64 L.a2,.int .i64 L.b2] TC w7 (L0 0) (L0 1) (L0 2) (L0 3) (L0 4) (L0 5) (L0 6) (L0 7) (L0 8) (L0 9) (L0 10) (L0 11) true (L0 13) (L0 14) v0 v1 v2 v3 v4 v5 v6 (.agg X) v8 v9 (.pointer (some ⟨g1,0,none⟩)) v11 v14 X J g1 g2 wq)=>hK undef wq ⟨_,_,_,_,_,_,_,_,_,_,_,_,_,X,J,g1,g2,rfl,h⟩;clear hK ho;simp only [dE,Act.put,aaf,aai,aah] at hk ⊢;refine bD (a:=⟨_,_⟩) (q := .pointer (some ⟨g1,0,none⟩)) (v := .agg X) (by rfl) (by rfl) (by rfl) (by rfl) (aQ BB (by rw [G.x4];exact iM) (by rw [G.x4];rfl) G.x1) ?_;exact hk _ (by rw [h7,h10];exact H.s12)
  ·-- 13
   injection (show some _=some oo from ho) with ho
   subst ho;have h8:=hd 8 (by decide);have h11:=hd 11 (by decide);obtain rfl:=H.p8 h8;have BB:=(H.p11 h11).2.2;have hv:=(H.p11 h11).1;subst hv;rw [hL] at BB;replace BB:Blk w2 g2 49 bC.toArray:=BB;have G:=(H.p5 (hd 5 (by decide))).2;rw [h8,h11,hL] at H;have hk:=fun (wq:World) (h:JW oS 16 hS [L] tO #[.int .i64 3,.int .i64 7,.slice none 0 0,.slice none 0 0] #[.int .i64 L.a0,.int .i64 L.b0,.int .i64 L.a1,.int .i64 L.b1,.int .i64 L.a2,.int .i64 L.b2] TC w7 (L0 0) (L0 1) (L0 2) (L0 3) (L0 4) (L0 5) (L0 6) (L0 7) (L0 8) (L0 9) (L0 10) (L0 11) (L0 12) true (L0 14) v0 v1 v2 v3 v4 v5 v6 v7 (.agg J) v9 v10 (.pointer (some ⟨g2,0,none⟩)) v14 X J g1 g2 wq)=>hK undef wq ⟨_,_,_,_,_,_,_,_,_,_,_,_,_,X,J,g1,g2,rfl,h⟩;clear hK ho;simp only [dE,Act.put,aaf,aai,aah] at hk ⊢;refine bD (a:=⟨_,_⟩) (q := .pointer (some ⟨g2,0,none⟩)) (v := .agg J) (by rfl) (by rfl) (by rfl) (by rfl) (aQ BB (by rw [G.j49];exact eG) (by rw [G.j49];exact dW) G.j1) ?_;exact hk _ (by rw [h8,h11];exact H.s13)
  ·-- 14
   injection (show some _=some oo from ho) with ho
   subst ho;have h9:=hd 9 (by decide);obtain rfl:=H.p9 h9;have hk:=fun (wq:World) h=>hK (.int .i64 (dh oS 16 hS [L] tO)) wq ⟨_,_,_,_,_,_,_,_,_,_,_,_,_,X,J,g1,g2,rfl,h⟩;clear hK ho;simp only [dE,Act.put,aaf,aai,aah] at hk ⊢;go_simp;exact hk _ ({ H with p14:=fun _=>rfl,c14:=fun _=>h9 })
 intro L0 vs w8 hall0 _ hJ;obtain ⟨v0,v1,v2,v3,v4,v5,v6,v7,v8,v9,v10,v11,v14,X,J,g1,g2,rfl,H⟩:=hJ;have hall:=fun i (hi:i<15)=>hall0 i hi;rw [hall 0 (by decide),hall 1 (by decide),hall 2 (by decide),hall 3 (by decide),hall 4 (by decide),hall 5 (by decide),hall 6 (by decide),hall 7 (by decide),hall 8 (by decide),hall 9 (by decide),hall 10 (by decide),hall 11 (by decide),hall 12 (by decide),hall 13 (by decide),hall 14 (by decide)] at H;clear hall hall0 L0;obtain rfl:=H.p0 rfl;obtain rfl:=H.p1 rfl;obtain rfl:=H.p2 rfl;obtain ⟨gl,rfl,_⟩:=H.p3 rfl;obtain rfl:=H.p4 rfl;obtain ⟨rfl,G⟩:=H.p5 rfl;obtain rfl:=H.p6 rfl;obtain rfl:=H.p7 rfl;obtain rfl:=H.p8 rfl;obtain rfl:=H.p9 rfl;obtain ⟨rfl,hg1,B1⟩:=H.p10 rfl;obtain ⟨rfl,hg2,B2⟩:=H.p11 rfl;obtain rfl:=H.p14 rfl;rw [if_pos rfl] at B1 B2;have b7:=H.below;clear H;simp only [dE,Act.put,aaf,aai,aah];have hw0:dh oS 16 hS [L] tO=0:=by rw [←hL.out];exact xA
 have hat:Hid (∀ w2,KeepsW w8 w2→OfAt w2 w2.heap.size X xS∧JwAt w2 w2.heap.size J kS):=aab (by have:=G.at_ hw0;rw [←hL.out] at this;exact this);rw [hw0];clear hw0;have hX4:=G.x4;have hJ49:=G.j49;clear G q8;replace BO:=BO.below b7 BO.lt;replace BL:=BL.below b7 BL.lt;replace BT:=BT.below b7 BT.lt;replace TA:=aab ((TA.out.below b7).more b7.size);replace hb:=ah hb b7;clear b7;have BX:=B1;have BJ:=B2;clear B1 B2 hg1 hg2;generalize X=X1 at *;generalize J=J1 at *;generalize g1=ga at *;generalize g2=gb at *;have hne9:dh xS 16 hS [L] tO≠0:=by rw [←hL.out,IU];decide
 have q9:∀ (w2:World) (gl:Nat),Below w8.heap.size w8 w2→Blk w2 gl 63 #[.int .i64 L.a0,.int .i64 L.b0,.int .i64 L.a1,.int .i64 L.b1,.int .i64 L.a2,.int .i64 L.b2] →
   Calls prog 13 #[.agg X1,.int .i64 16,.agg hS.cl.toArray,.slice (some ⟨gl,0,none⟩) 1 1,.agg TC] w2 (RetWork xS 16 hS [L] tO w2):=fun w2 gl b B=>by
  obtain ⟨A,c,vs,Au,cu,hX,a1,a2,a3,a4,a5,a6⟩:=(hat.out w2 (KeepsW.below b)).1
  have h:=Ai xS A Au (some ⟨gl,0,none⟩) c cu 1 vs 16 hS [L] _ tO w2 a1 (by rw [yF.1];omega) a2 a3 a4 a5 (by rw [yF.2];omega) a6 TJ
   (RdT.of_blk (n:=1) (sz:=6) (xs:=[L].flatMap Ltr.cl) B rfl).rd (show 1≤100000 by decide) (fun x hx=>by rw [List.mem_singleton.1 hx];exact hLo.out) ((TA.out.below b).more b.size) (hG.below (ah hb b))
  rw [hX,hTC.out];exact h
 replace q9:=aab q9;go_upto_region 9 with fail
 refine oW [82,83,84,85,86,87,81,88,89,90,17,18,19] [[],[],[],[2],[],[0,1,3,4,1],[5],[6],[6],[6],[],[],[10,7,5,0,1,2,3,4,5,6,7,10,11],[11,8,12,0,1,2,3,4,5,6,7,8,10,11,12],[9,13,0,1,2,3,4,5,6,7,8,9,10,11,12,13]]
  (fun L0 vs wq=>∃ v0 v1 v2 v3 v4 v5 v6 v7 v8 v9 v10 v11 v14 X J g1 g2,vs=[v0,v1,v2,v3,v4,v5,v6,v7,v8,v9,v10,v11,v14]∧JW xS 16 hS [L] tO X1 #[.int .i64 L.a0,.int .i64 L.b0,.int .i64 L.a1,.int .i64 L.b1,.int .i64 L.a2,.int .i64 L.b2] TC w8 (L0 0) (L0 1) (L0 2) (L0 3) (L0 4) (L0 5) (L0 6) (L0 7) (L0 8) (L0 9) (L0 10) (L0 11) (L0 12) (L0 13) (L0 14) v0 v1 v2 v3 v4 v5 v6 v7 v8 v9 v10 v11 v14 X J g1 g2 wq) [undef,undef,undef,undef,undef,undef,undef,undef,undef,undef,undef,undef,undef] ?_ ?_ ?_ ?_
 ·simp only [dE,Act.put,aaf,aai,aah]
 ·exact ⟨_,_,_,_,_,_,_,_,_,_,_,_,_,#[],#[],0,0,rfl,JW.start (bDr (aj _))⟩
 ·intro i oo L0 vs w2 ho hL hd _ hJ Kq hK
  have hi:i<15:=(aag.1 ho).1;obtain ⟨v0,v1,v2,v3,v4,v5,v6,v7,v8,v9,v10,v11,v14,X,J,g1,g2,rfl,H⟩:=hJ;obtain rfl | rfl | rfl | rfl | rfl | rfl | rfl | rfl | rfl | rfl | rfl | rfl | rfl | rfl | rfl:i=0∨i=1∨i=2∨i=3∨i=4∨i=5∨i=6∨i=7∨i=8∨i=9∨i=10∨i=11∨i=12∨i=13∨i=14:=by omega
  ·-- 0
   injection (show some _=some oo from ho) with ho
   subst ho;have BB:=BX.below H.below BX.lt;have hk:=fun (wq:World) h=>hK (.agg X1) wq ⟨_,_,_,_,_,_,_,_,_,_,_,_,_,X,J,g1,g2,rfl,h⟩;clear hK ho;simp only [dE,Act.put,aaf,aai,aah] at hk ⊢;refine Ls (a:=⟨_,_⟩) (q := .pointer (some ⟨ga,0,none⟩)) (v := .agg X1) (by rfl) (by rfl) (by rfl) (bg BB underlying25 rfl (by rw [hX4];exact iM)) ?_;exact hk _ ({ H with p0:=fun _=>rfl })
  ·-- 1
   injection (show some _=some oo from ho) with ho
   subst ho;have hk:=fun (wq:World) h=>hK (.agg hS.cl.toArray) wq ⟨_,_,_,_,_,_,_,_,_,_,_,_,_,X,J,g1,g2,rfl,h⟩;clear hK ho;simp only [dE,Act.put,aaf,aai,aah] at hk ⊢;go_simp;go_at_call 44;refine (Ah w2).mono ?_;rintro e w3 ⟨rfl,b3⟩;exact hk _ ({ H.grow b3 with p1:=fun _=>rfl })
  ·-- 2
   injection (show some _=some oo from ho) with ho
   subst ho;have BB:=BL.below H.below BL.lt;have c0:=BB.cell 0;have c1:=BB.cell 1;have c2:=BB.cell 2;have c3:=BB.cell 3;have c4:=BB.cell 4;have c5:=BB.cell 5;have hk:=fun (wq:World) h=>hK (.agg #[.int .i64 L.a0,.int .i64 L.b0,.int .i64 L.a1,.int .i64 L.b1,.int .i64 L.a2,.int .i64 L.b2]) wq ⟨_,_,_,_,_,_,_,_,_,_,_,_,_,X,J,g1,g2,rfl,h⟩;clear hK ho;simp only [dE,Act.put,aaf,aai,aah] at hk ⊢;go_simp;exact hk _ ({ H with p2:=fun _=>rfl })
  ·-- 3
   injection (show some _=some oo from ho) with ho
   subst ho;obtain rfl:=H.p2 (hd 2 (by decide));have hk:=fun (wq:World) h=>hK (.slice (some ⟨w2.heap.size,0,none⟩) 1 1) wq ⟨_,_,_,_,_,_,_,_,_,_,_,_,_,X,J,g1,g2,rfl,h⟩;clear hK ho;simp only [dE,Act.put,aaf,aai,aah] at hk ⊢;go_simp;exact hk _ (H.s3)
  ·-- 4
   injection (show some _=some oo from ho) with ho
   subst ho;have BB:=BT.below H.below BT.lt;rw [hTC.out] at BB;have c0:=BB.cell 0;have c1:=BB.cell 1;have c2:=BB.cell 2;have c3:=BB.cell 3;have c4:=BB.cell 4;have hk:=fun (wq:World) h=>hK (.agg TC) wq ⟨_,_,_,_,_,_,_,_,_,_,_,_,_,X,J,g1,g2,rfl,h⟩;clear hK ho;simp only [dE,Act.put,aaf,aai,aah] at hk ⊢;go_simp;rw [←hTC.out];exact hk _ ({ H with p4:=fun _=>rfl })
  ·-- 5
   injection (show some _=some oo from ho) with ho
   subst ho;obtain rfl:=H.p0 (hd 0 (by decide));obtain rfl:=H.p1 (hd 1 (by decide));obtain ⟨gl,rfl,Bl⟩:=H.p3 (hd 3 (by decide));obtain rfl:=H.p4 (hd 4 (by decide));rw [hL] at H;have hk:=fun (wq:World) X J g1 g2 h=>hK (.tuple #[.agg X,.agg J,.int .i64 (dh xS 16 hS [L] tO)]) wq ⟨_,_,_,_,_,_,_,_,_,_,_,_,_,X,J,g1,g2,rfl,h⟩;clear hK ho;have q:=q9.out w2 gl H.below Bl;simp only [dE,Act.put,aaf,aai,aah] at hk ⊢;go_simp;go_at_call 13;refine q.mono ?_;rintro e w3 hr;obtain ⟨b3,X',J',rfl,G⟩:=GW.of_ret hr (.inr hne9);exact hk _ _ _ _ _ (H.s5 b3 G)
  ·-- 6
   injection (show some _=some oo from ho) with ho
   subst ho;have h5:=hd 5 (by decide);obtain ⟨rfl,_⟩:=H.p5 h5;have hk:=fun (wq:World) h=>hK (.tuple #[.agg X,.agg J,.int .i64 (dh xS 16 hS [L] tO)]) wq ⟨_,_,_,_,_,_,_,_,_,_,_,_,_,X,J,g1,g2,rfl,h⟩;clear hK ho;simp only [dE,Act.put,aaf,aai,aah] at hk ⊢;go_simp;exact hk _ ({ H with p6:=fun _=>rfl,c6:=fun _=>h5,c7:=fun _=>rfl,c8:=fun _=>rfl,c9:=fun _=>rfl })
  ·-- 7
   injection (show some _=some oo from ho) with ho
   subst ho;have h6:=hd 6 (by decide);obtain rfl:=H.p6 h6;have hk:=fun (wq:World) h=>hK (.agg X) wq ⟨_,_,_,_,_,_,_,_,_,_,_,_,_,X,J,g1,g2,rfl,h⟩;clear hK ho;simp only [dE,Act.put,aaf,aai,aah] at hk ⊢;go_simp;exact hk _ ({ H with p7:=fun _=>rfl,c7:=fun _=>h6,c12:=fun h=>⟨rfl,(H.c12 h).2⟩ })
  ·-- 8
   injection (show some _=some oo from ho) with ho
   subst ho;have h6:=hd 6 (by decide);obtain rfl:=H.p6 h6;have hk:=fun (wq:World) h=>hK (.agg J) wq ⟨_,_,_,_,_,_,_,_,_,_,_,_,_,X,J,g1,g2,rfl,h⟩;clear hK ho;simp only [dE,Act.put,aaf,aai,aah] at hk ⊢;go_simp;exact hk _ ({ H with p8:=fun _=>rfl,c8:=fun _=>h6,c13:=fun h=>⟨rfl,(H.c13 h).2⟩ })
  ·-- 9
   injection (show some _=some oo from ho) with ho
   subst ho;have h6:=hd 6 (by decide);obtain rfl:=H.p6 h6;have hk:=fun (wq:World) h=>hK (.int .i64 (dh xS 16 hS [L] tO)) wq ⟨_,_,_,_,_,_,_,_,_,_,_,_,_,X,J,g1,g2,rfl,h⟩;clear hK ho;simp only [dE,Act.put,aaf,aai,aah] at hk ⊢;go_simp;exact hk _ ({ H with p9:=fun _=>rfl,c9:=fun _=>h6,c14:=fun _=>rfl })
  ·-- 10
   injection (show some _=some oo from ho) with ho
   subst ho;rw [hL] at H;have hk:=fun (wq:World) g1 h=>hK (.pointer (some ⟨g1,0,none⟩)) wq ⟨_,_,_,_,_,_,_,_,_,_,_,_,_,X,J,g1,g2,rfl,h⟩;clear hK ho;simp only [dE,Act.put,aaf,aai,aah] at hk ⊢;go_simp;exact hk _ _ (H.s10)
  ·-- 11
   injection (show some _=some oo from ho) with ho
   subst ho;rw [hL] at H;have hk:=fun (wq:World) g2 h=>hK (.pointer (some ⟨g2,0,none⟩)) wq ⟨_,_,_,_,_,_,_,_,_,_,_,_,_,X,J,g1,g2,rfl,h⟩;clear hK ho;simp only [dE,Act.put,aaf,aai,aah] at hk ⊢;go_simp;exact hk _ _ (H.s11)
  ·-- 12
   injection (show some _=some oo from ho) with ho
   subst ho;have h7:=hd 7 (by decide);have h10:=hd 10 (by decide);obtain rfl:=H.p7 h7;have BB:=(H.p10 h10).2.2;have hv:=(H.p10 h10).1;subst hv;rw [hL] at BB;replace BB:Blk w2 g1 25 bK:=BB;have G:=(H.p5 (hd 5 (by decide))).2;rw [h7,h10,hL] at H;have hk:=fun (wq:World) (h:JW xS 16 hS [L] tO X1 #[.int .i64 L.a0,.int .i64 L.b0,.int .i64 L.a1,.int .i64 L.b1,.int .i64 L.a2,.int .i64 L.b2] TC w8 (L0 0) (L0 1) (L0 2) (L0 3) (L0 4) (L0 5) (L0 6) (L0 7) (L0 8) (L0 9) (L0 10) (L0 11) true (L0 13) (L0 14) v0 v1 v2 v3 v4 v5 v6 (.agg X) v8 v9 (.pointer (some ⟨g1,0,none⟩)) v11 v14 X J g1 g2 wq)=>hK undef wq ⟨_,_,_,_,_,_,_,_,_,_,_,_,_,X,J,g1,g2,rfl,h⟩;clear hK ho;simp only [dE,Act.put,aaf,aai,aah] at hk ⊢;refine bD (a:=⟨_,_⟩) (q := .pointer (some ⟨g1,0,none⟩)) (v := .agg X) (by rfl) (by rfl) (by rfl) (by rfl) (aQ BB (by rw [G.x4];exact iM) (by rw [G.x4];rfl) G.x1) ?_;exact hk _ (by rw [h7,h10];exact H.s12)
  ·-- 13
   injection (show some _=some oo from ho) with ho
   subst ho;have h8:=hd 8 (by decide);have h11:=hd 11 (by decide);obtain rfl:=H.p8 h8;have BB:=(H.p11 h11).2.2;have hv:=(H.p11 h11).1;subst hv;rw [hL] at BB;replace BB:Blk w2 g2 49 bC.toArray:=BB;have G:=(H.p5 (hd 5 (by decide))).2;rw [h8,h11,hL] at H;have hk:=fun (wq:World) (h:JW xS 16 hS [L] tO X1 #[.int .i64 L.a0,.int .i64 L.b0,.int .i64 L.a1,.int .i64 L.b1,.int .i64 L.a2,.int .i64 L.b2] TC w8 (L0 0) (L0 1) (L0 2) (L0 3) (L0 4) (L0 5) (L0 6) (L0 7) (L0 8) (L0 9) (L0 10) (L0 11) (L0 12) true (L0 14) v0 v1 v2 v3 v4 v5 v6 v7 (.agg J) v9 v10 (.pointer (some ⟨g2,0,none⟩)) v14 X J g1 g2 wq)=>hK undef wq ⟨_,_,_,_,_,_,_,_,_,_,_,_,_,X,J,g1,g2,rfl,h⟩;clear hK ho;simp only [dE,Act.put,aaf,aai,aah] at hk ⊢;refine bD (a:=⟨_,_⟩) (q := .pointer (some ⟨g2,0,none⟩)) (v := .agg J) (by rfl) (by rfl) (by rfl) (by rfl) (aQ BB (by rw [G.j49];exact eG) (by rw [G.j49];exact dW) G.j1) ?_;exact hk _ (by rw [h8,h11];exact H.s13)
  ·-- 14
   injection (show some _=some oo from ho) with ho
   subst ho;have h9:=hd 9 (by decide);obtain rfl:=H.p9 h9;have hk:=fun (wq:World) h=>hK (.int .i64 (dh xS 16 hS [L] tO)) wq ⟨_,_,_,_,_,_,_,_,_,_,_,_,_,X,J,g1,g2,rfl,h⟩;clear hK ho;simp only [dE,Act.put,aaf,aai,aah] at hk ⊢;go_simp;exact hk _ ({ H with p14:=fun _=>rfl,c14:=fun _=>h9 })
 intro L0 vs w9 hall0 _ hJ;obtain ⟨v0,v1,v2,v3,v4,v5,v6,v7,v8,v9,v10,v11,v14,X,J,g1,g2,rfl,H⟩:=hJ;have hall:=fun i (hi:i<15)=>hall0 i hi;rw [hall 0 (by decide),hall 1 (by decide),hall 2 (by decide),hall 3 (by decide),hall 4 (by decide),hall 5 (by decide),hall 6 (by decide),hall 7 (by decide),hall 8 (by decide),hall 9 (by decide),hall 10 (by decide),hall 11 (by decide),hall 12 (by decide),hall 13 (by decide),hall 14 (by decide)] at H;clear hall hall0 L0;obtain rfl:=H.p0 rfl;obtain rfl:=H.p1 rfl;obtain rfl:=H.p2 rfl;obtain ⟨gl,rfl,_⟩:=H.p3 rfl;obtain rfl:=H.p4 rfl;obtain ⟨rfl,G⟩:=H.p5 rfl;obtain rfl:=H.p6 rfl;obtain rfl:=H.p7 rfl;obtain rfl:=H.p8 rfl;obtain rfl:=H.p9 rfl;obtain ⟨rfl,hg1,B1⟩:=H.p10 rfl;obtain ⟨rfl,hg2,B2⟩:=H.p11 rfl;obtain rfl:=H.p14 rfl;rw [if_pos rfl] at B1 B2;have b7:=H.below;clear H;simp only [dE,Act.put,aaf,aai,aah];have hw9:dh xS 16 hS [L] tO=491:=by rw [←hL.out];exact IU
 rw [hw9];clear hw9 G q9 hne9 B1 B2 hg1 hg2;replace BO:=BO.below b7 BO.lt;replace BL:=BL.below b7 BL.lt;replace BT:=BT.below b7 BT.lt;replace BX:=BX.below b7 BX.lt;replace BJ:=BJ.below b7 BJ.lt;replace TA:=aab ((TA.out.below b7).more b7.size);replace hat:Hid (∀ w2,KeepsW w9 w2→OfAt w2 w2.heap.size X1 xS∧JwAt w2 w2.heap.size J1 kS):=aab (fun w2 k=>hat.out w2 ((KeepsW.below b7).trans k));replace hb:=ah hb b7;clear b7;generalize g1=gdead1 at *;generalize g2=gdead2 at *;go_upto_region 10 with fail;have q10:=Ah w9;go_wp2_with fail;refine q10.mono ?_;rintro e wa ⟨rfl,bA⟩;clear q10;dsimp only
 (refine ‹∀ (a:Act) (w:World),wpList _ _ _ _ a w→_› _ _ ?_)
 iterate 3 go_step
 refine aG (v := .agg hS.cl.toArray) (by rfl) (by rfl) (by rfl) (by rfl) (bP (old:=dM.cl.toArray) (by rw [Lr];exact cO) (by rw [Lr];simpa using Hd.cl_length qg) (by simpa using Hd.one hS)) ?_;simp only [Act.put];have BH:=Blk.new wa 33 hS.cl.toArray _ rfl;have hle:w9.heap.size≤wa.heap.size:=bA.size;replace bA:=bAl bA (.cells hS.cl.toArray 33);generalize wa.alloc (.cells hS.cl.toArray 33)=wb at *;generalize wa.heap.size=hdb at *;go_upto_region 11 with fail;have c4:wb.cell? ⟨hdb,4,none⟩=some (.int .i64 3):=(BH.cell 4).trans rfl;have f4:=BH.frozen 4;go_upto_region 12 with fail;have BH4:Blk (wb.setCell ⟨hdb,4,none⟩ (.int .i64 4)) hdb 33 hS4.cl.toArray:=by rw [←TK];exact BH.set_ 4 _
 replace bA:=zQ7 bA (p:=⟨hdb,4,none⟩) hle (.int .i64 4);clear c4 f4 BH;generalize wb.setCell ⟨hdb,4,none⟩ (.int .i64 4)=wc at *;have BB:=BO.below bA BO.lt;have c0:=BB.cell 0;have c1:=BB.cell 1;have c2:=BB.cell 2;have c3:=BB.cell 3;have LH:=bg BH4 underlying33 rfl (by rw [show hS4.cl.toArray.size=42 by rw [aae];rfl];exact cO);have q12:=Jc 16 hS4 WG wc (hG.below (ah hb bA));apply wp_region_lit
 iterate 3 go_step
 refine aP (by rfl) (by rfl) (by rfl) LH ?_;clear c0 c1 c2 c3 LH;simp only [Act.put];go_wp2_with fail;refine q12.mono ?_;rintro e wd hr;have he:=hr.2.1 (by rw [IV];decide);rw [IV] at he;have bd:=hr.1;subst he;clear hr q12;dsimp only
 (refine ‹∀ (a:Act) (w:World),wpList _ _ _ _ a w→_› _ _ ?_)
 iterate 18 go_step
 change wpList _ _ _ _ _ ((wd.alloc (.cells bK 25)).alloc (.cells bC.toArray 49));have BY:=(Blk.new wd 25 bK _ rfl).alloc (.cells bC.toArray 49);have BZ:=Blk.new (wd.alloc (.cells bK 25)) 49 bC.toArray (wd.heap.size+1) (by simp);have b67:=bAl (bAl (aj wd) (.cells bK 25)) (.cells bC.toArray 49);generalize (wd.alloc (.cells bK 25)).alloc (.cells bC.toArray 49)=we at *;refine aG (q := .pointer (some ⟨wd.heap.size,0,none⟩)) (v := .agg bK) (by rfl) (by rfl) (by rfl) (by rfl) (aQ (X:=bK) BY iM rfl (by decide)) ?_;simp only [Act.put];have BZ2:=BZ.farRowT BY (by decide) bK;refine aG (q := .pointer (some ⟨wd.heap.size+1,0,none⟩)) (v := .agg bC.toArray) (by rfl) (by rfl) (by rfl) (by rfl) (aQ (X:=bC.toArray) BZ2 (by rw [dW];exact eG) rfl (by simpa using qL)) ?_;simp only [Act.put];have b68:=below_setRow (below_setRow b67 (aad _) bK) (Nat.le_succ _) bC.toArray;clear BY BZ BZ2 b67;generalize (we.setRow wd.heap.size bK).setRow (wd.heap.size+1) bC.toArray=w12 at *;replace bA:=ah bA (ah bd b68);clear bd b68 BB;replace BO:=BO.below bA BO.lt;replace BL:=BL.below bA BL.lt;replace BT:=BT.below bA BT.lt;replace BX:=BX.below bA BX.lt;replace BJ:=BJ.below bA BJ.lt;replace TA:=aab ((TA.out.below bA).more bA.size);replace hat:Hid (∀ w2,KeepsW w12 w2→OfAt w2 w2.heap.size X1 xS∧JwAt w2 w2.heap.size J1 kS):=aab (fun w2 k=>hat.out w2 ((KeepsW.below bA).trans k));replace hb:=ah hb bA;clear bA hle BH4;have q13:Hid (∀ w2,Below w12.heap.size w12 w2→Calls prog 13 #[.agg #[.int .i64 3,.int .i64 7,.slice none 0 0,.slice none 0 0],.int .i64 2,.agg hS.cl.toArray,.slice none 0 0,.agg #[.slice none 0 0,.slice none 0 0,.slice none 0 0,.slice none 0 0,.slice none 0 0]] w2 (RetWork oS 2 hS [] oL w2)):=aab (fun w2 b=>Jc 2 hS TJ w2 (hG.below (ah hb b)))
 go_upto_region 13 with fail
 refine oW [102,103,104,105,101,106,107,108,24,25,26] [[],[],[],[0,1,2,1],[3],[4],[4],[4],[],[],[8,5,3,0,1,2,3,4,5,8,9],[9,6,10,0,1,2,3,4,5,6,8,9,10],[7,11,0,1,2,3,4,5,6,7,8,9,10,11]]
  (fun L0 vs wq=>∃ v0 v1 v4 v5 v6 v7 v8 v9 v10 v11 v14 X J g1 g2,vs=[v0,v1,v4,v5,v6,v7,v8,v9,v10,v11,v14]∧JW oS 2 hS [] oL #[.int .i64 3,.int .i64 7,.slice none 0 0,.slice none 0 0] #[] #[.slice none 0 0,.slice none 0 0,.slice none 0 0,.slice none 0 0,.slice none 0 0] w12 (L0 0) (L0 1) false false (L0 2) (L0 3) (L0 4) (L0 5) (L0 6) (L0 7) (L0 8) (L0 9) (L0 10) (L0 11) (L0 12) v0 v1 undef undef v4 v5 v6 v7 v8 v9 v10 v11 v14 X J g1 g2 wq) [undef,undef,undef,undef,undef,undef,undef,undef,undef,undef,undef] ?_ ?_ ?_ ?_
 ·simp only [dE,Act.put,aaf,aai,aah]
 ·exact ⟨_,_,_,_,_,_,_,_,_,_,_,#[],#[],0,0,rfl,JW.start (bDr (aj _))⟩
 ·intro i oo L0 vs w2 ho hL hd _ hJ Kq hK
  have hi:i<13:=(aag.1 ho).1;obtain ⟨v0,v1,v4,v5,v6,v7,v8,v9,v10,v11,v14,X,J,g1,g2,rfl,H⟩:=hJ;obtain rfl | rfl | rfl | rfl | rfl | rfl | rfl | rfl | rfl | rfl | rfl | rfl | rfl:i=0∨i=1∨i=2∨i=3∨i=4∨i=5∨i=6∨i=7∨i=8∨i=9∨i=10∨i=11∨i=12:=by omega
  ·-- 0
   injection (show some _=some oo from ho) with ho
   subst ho;have BB:=BO.below H.below BO.lt;have c0:=BB.cell 0;have c1:=BB.cell 1;have c2:=BB.cell 2;have c3:=BB.cell 3;have hk:=fun (wq:World) h=>hK (.agg #[.int .i64 3,.int .i64 7,.slice none 0 0,.slice none 0 0]) wq ⟨_,_,_,_,_,_,_,_,_,_,_,X,J,g1,g2,rfl,h⟩;clear hK ho;simp only [dE,Act.put,aaf,aai,aah] at hk ⊢;go_simp;exact hk _ ({ H with p0:=fun _=>rfl })
  ·-- 1
   injection (show some _=some oo from ho) with ho
   subst ho;have hk:=fun (wq:World) h=>hK (.agg hS.cl.toArray) wq ⟨_,_,_,_,_,_,_,_,_,_,_,X,J,g1,g2,rfl,h⟩;clear hK ho;simp only [dE,Act.put,aaf,aai,aah] at hk ⊢;go_simp;go_at_call 44;refine (Ah w2).mono ?_;rintro e w3 ⟨rfl,b3⟩;exact hk _ ({ H.grow b3 with p1:=fun _=>rfl })
  ·-- 4
   injection (show some _=some oo from ho) with ho
   subst ho;have hk:=fun (wq:World) h=>hK (.agg #[.slice none 0 0,.slice none 0 0,.slice none 0 0,.slice none 0 0,.slice none 0 0]) wq ⟨_,_,_,_,_,_,_,_,_,_,_,X,J,g1,g2,rfl,h⟩;clear hK ho;simp only [dE,Act.put,aaf,aai,aah] at hk ⊢;go_simp;exact hk _ ({ H with p4:=fun _=>rfl })
  ·-- 5
   injection (show some _=some oo from ho) with ho
   subst ho;obtain rfl:=H.p0 (hd 0 (by decide));obtain rfl:=H.p1 (hd 1 (by decide));obtain rfl:=H.p4 (hd 2 (by decide));rw [hL] at H;have hk:=fun (wq:World) X J g1 g2 h=>hK (.tuple #[.agg X,.agg J,.int .i64 (dh oS 2 hS [] oL)]) wq ⟨_,_,_,_,_,_,_,_,_,_,_,X,J,g1,g2,rfl,h⟩;clear hK ho;have q:=q13.out w2 H.below;simp only [dE,Act.put,aaf,aai,aah] at hk ⊢;go_simp;go_at_call 13;refine q.mono ?_;rintro e w3 hr;obtain ⟨b3,X',J',rfl,G⟩:=GW.of_ret hr (.inl rfl);exact hk _ _ _ _ _ (H.s5 b3 G)
  ·-- 6
   injection (show some _=some oo from ho) with ho
   subst ho;have h5:=hd 3 (by decide);obtain ⟨rfl,_⟩:=H.p5 h5;have hk:=fun (wq:World) h=>hK (.tuple #[.agg X,.agg J,.int .i64 (dh oS 2 hS [] oL)]) wq ⟨_,_,_,_,_,_,_,_,_,_,_,X,J,g1,g2,rfl,h⟩;clear hK ho;simp only [dE,Act.put,aaf,aai,aah] at hk ⊢;go_simp;exact hk _ ({ H with p6:=fun _=>rfl,c6:=fun _=>h5,c7:=fun _=>rfl,c8:=fun _=>rfl,c9:=fun _=>rfl })
  ·-- 7
   injection (show some _=some oo from ho) with ho
   subst ho;have h6:=hd 4 (by decide);obtain rfl:=H.p6 h6;have hk:=fun (wq:World) h=>hK (.agg X) wq ⟨_,_,_,_,_,_,_,_,_,_,_,X,J,g1,g2,rfl,h⟩;clear hK ho;simp only [dE,Act.put,aaf,aai,aah] at hk ⊢;go_simp;exact hk _ ({ H with p7:=fun _=>rfl,c7:=fun _=>h6,c12:=fun h=>⟨rfl,(H.c12 h).2⟩ })
  ·-- 8
   injection (show some _=some oo from ho) with ho
   subst ho;have h6:=hd 4 (by decide);obtain rfl:=H.p6 h6;have hk:=fun (wq:World) h=>hK (.agg J) wq ⟨_,_,_,_,_,_,_,_,_,_,_,X,J,g1,g2,rfl,h⟩;clear hK ho;simp only [dE,Act.put,aaf,aai,aah] at hk ⊢;go_simp;exact hk _ ({ H with p8:=fun _=>rfl,c8:=fun _=>h6,c13:=fun h=>⟨rfl,(H.c13 h).2⟩ })
  ·-- 9
   injection (show some _=some oo from ho) with ho
   subst ho;have h6:=hd 4 (by decide);obtain rfl:=H.p6 h6;have hk:=fun (wq:World) h=>hK (.int .i64 (dh oS 2 hS [] oL)) wq ⟨_,_,_,_,_,_,_,_,_,_,_,X,J,g1,g2,rfl,h⟩;clear hK ho;simp only [dE,Act.put,aaf,aai,aah] at hk ⊢;go_simp;exact hk _ ({ H with p9:=fun _=>rfl,c9:=fun _=>h6,c14:=fun _=>rfl })
  ·-- 10
   injection (show some _=some oo from ho) with ho
   subst ho;rw [hL] at H;have hk:=fun (wq:World) g1 h=>hK (.pointer (some ⟨g1,0,none⟩)) wq ⟨_,_,_,_,_,_,_,_,_,_,_,X,J,g1,g2,rfl,h⟩;clear hK ho;simp only [dE,Act.put,aaf,aai,aah] at hk ⊢;go_simp;exact hk _ _ (H.s10)
  ·-- 11
   injection (show some _=some oo from ho) with ho
   subst ho;rw [hL] at H;have hk:=fun (wq:World) g2 h=>hK (.pointer (some ⟨g2,0,none⟩)) wq ⟨_,_,_,_,_,_,_,_,_,_,_,X,J,g1,g2,rfl,h⟩;clear hK ho;simp only [dE,Act.put,aaf,aai,aah] at hk ⊢;go_simp;exact hk _ _ (H.s11)
  ·-- 12
   injection (show some _=some oo from ho) with ho
   subst ho;have h7:=hd 5 (by decide);have h10:=hd 8 (by decide);obtain rfl:=H.p7 h7;have BB:=(H.p10 h10).2.2;have hv:=(H.p10 h10).1;subst hv;rw [hL] at BB;replace BB:Blk w2 g1 25 bK:=BB;have G:=(H.p5 (hd 3 (by decide))).2;rw [h7,h10,hL] at H;have hk:=fun (wq:World) (h:JW oS 2 hS [] oL #[.int .i64 3,.int .i64 7,.slice none 0 0,.slice none 0 0] #[] #[.slice none 0 0,.slice none 0 0,.slice none 0 0,.slice none 0 0,.slice none 0 0] w12 (L0 0) (L0 1) false false (L0 2) (L0 3) (L0 4) (L0 5) (L0 6) (L0 7) (L0 8) (L0 9) true (L0 11) (L0 12) v0 v1 undef undef v4 v5 v6 (.agg X) v8 v9 (.pointer (some ⟨g1,0,none⟩)) v11 v14 X J g1 g2 wq)=>hK undef wq ⟨_,_,_,_,_,_,_,_,_,_,_,X,J,g1,g2,rfl,h⟩;clear hK ho;simp only [dE,Act.put,aaf,aai,aah] at hk ⊢;refine bD (a:=⟨_,_⟩) (q := .pointer (some ⟨g1,0,none⟩)) (v := .agg X) (by rfl) (by rfl) (by rfl) (by rfl) (aQ BB (by rw [G.x4];exact iM) (by rw [G.x4];rfl) G.x1) ?_;exact hk _ (by rw [h7,h10];exact H.s12)
  ·-- 13
   injection (show some _=some oo from ho) with ho
   subst ho;have h8:=hd 6 (by decide);have h11:=hd 9 (by decide);obtain rfl:=H.p8 h8;have BB:=(H.p11 h11).2.2;have hv:=(H.p11 h11).1;subst hv;rw [hL] at BB;replace BB:Blk w2 g2 49 bC.toArray:=BB;have G:=(H.p5 (hd 3 (by decide))).2;rw [h8,h11,hL] at H;have hk:=fun (wq:World) (h:JW oS 2 hS [] oL #[.int .i64 3,.int .i64 7,.slice none 0 0,.slice none 0 0] #[] #[.slice none 0 0,.slice none 0 0,.slice none 0 0,.slice none 0 0,.slice none 0 0] w12 (L0 0) (L0 1) false false (L0 2) (L0 3) (L0 4) (L0 5) (L0 6) (L0 7) (L0 8) (L0 9) (L0 10) true (L0 12) v0 v1 undef undef v4 v5 v6 v7 (.agg J) v9 v10 (.pointer (some ⟨g2,0,none⟩)) v14 X J g1 g2 wq)=>hK undef wq ⟨_,_,_,_,_,_,_,_,_,_,_,X,J,g1,g2,rfl,h⟩;clear hK ho;simp only [dE,Act.put,aaf,aai,aah] at hk ⊢;refine bD (a:=⟨_,_⟩) (q := .pointer (some ⟨g2,0,none⟩)) (v := .agg J) (by rfl) (by rfl) (by rfl) (by rfl) (aQ BB (by rw [G.j49];exact eG) (by rw [G.j49];exact dW) G.j1) ?_;exact hk _ (by rw [h8,h11];exact H.s13)
  ·-- 14
   injection (show some _=some oo from ho) with ho
   subst ho;have h9:=hd 7 (by decide);obtain rfl:=H.p9 h9;have hk:=fun (wq:World) h=>hK (.int .i64 (dh oS 2 hS [] oL)) wq ⟨_,_,_,_,_,_,_,_,_,_,_,X,J,g1,g2,rfl,h⟩;clear hK ho;simp only [dE,Act.put,aaf,aai,aah] at hk ⊢;go_simp;exact hk _ ({ H with p14:=fun _=>rfl,c14:=fun _=>h9 })
 intro L0 vs w13 hall0 _ hJ;obtain ⟨v0,v1,v4,v5,v6,v7,v8,v9,v10,v11,v14,X,J,g1,g2,rfl,H⟩:=hJ;have hall:=fun i (hi:i<13)=>hall0 i hi;rw [hall 0 (by decide),hall 1 (by decide),hall 2 (by decide),hall 3 (by decide),hall 4 (by decide),hall 5 (by decide),hall 6 (by decide),hall 7 (by decide),hall 8 (by decide),hall 9 (by decide),hall 10 (by decide),hall 11 (by decide),hall 12 (by decide)] at H;clear hall hall0 L0;obtain rfl:=H.p0 rfl;obtain rfl:=H.p1 rfl;obtain rfl:=H.p4 rfl;obtain ⟨rfl,G⟩:=H.p5 rfl;obtain rfl:=H.p6 rfl;obtain rfl:=H.p7 rfl;obtain rfl:=H.p8 rfl;obtain rfl:=H.p9 rfl;obtain ⟨rfl,hg1,B1⟩:=H.p10 rfl;obtain ⟨rfl,hg2,B2⟩:=H.p11 rfl;obtain rfl:=H.p14 rfl;have b7:=H.below;clear H G B1 B2 hg1 hg2;simp only [dE,Act.put,aaf,aai,aah];rw [Vg];clear q13;replace BO:=BO.below b7 BO.lt;replace BL:=BL.below b7 BL.lt;replace BT:=BT.below b7 BT.lt;replace BX:=BX.below b7 BX.lt;replace BJ:=BJ.below b7 BJ.lt;replace TA:=aab ((TA.out.below b7).more b7.size);replace hat:Hid (∀ w2,KeepsW w13 w2→OfAt w2 w2.heap.size X1 xS∧JwAt w2 w2.heap.size J1 kS):=aab (fun w2 k=>hat.out w2 ((KeepsW.below b7).trans k));replace hb:=ah hb b7;clear b7;go_upto_region 16 with fail;obtain ⟨A,c,vs,Au,cu,hX,-⟩:=(hat.out w13 (KeepsW.refl _)).1
 obtain ⟨m2,n2,hJ4,hJ13,hm2⟩:∃ m2 n2,J1[4]?=some (.slice m2 1 n2)∧J1[13]?=some (.int .i64 1)∧∀ w2,KeepsW w13 w2→Rd w2 w2.heap.size 6 m2 1 (kS.mix.out.flatMap Ltr.cl):=by
  obtain ⟨A1,A2',e1,e2,ms,hJ1,_⟩:=(hat.out w13 (KeepsW.refl _)).2;refine ⟨ms.a2,ms.c2,?_,?_,?_⟩
  ·rw [hJ1,xG,yG.2.2.2.2.1]
  ·rw [hJ1,PV,Vu]
  ·intro w2 k
   obtain ⟨A1b,A2b,e1b,e2b,msb,hJb,_,_,hM,_⟩:=(hat.out w2 k).2;have h9:=hM.r2;rw [hJ1] at hJb;have h7:(sQ A1 A2' e1 e2 kS.bare kS.proofs ms kS.mix kS.hand)[4]?=(sQ A1b A2b e1b e2b kS.bare kS.proofs msb kS.mix kS.hand)[4]?:=(by rw [hJb]);rw [xG,xG] at h7;have h8:=(Value.slice.inj (Option.some.inj h7)).1;rw [←h8,yG.2.2.2.2.1] at h9;exact h9
 rw [yF.1,yF.2] at hX;replace hm2:=aab hm2;replace hJ4:=aab hJ4;replace hJ13:=aab hJ13;obtain ⟨y,hy,hyg,hyr⟩:=Ti;replace hy:=aab hy;replace hyr:=aab hyr;have hX1:=aab hX;have x2:X1[2]?=some (.slice A 1 c):=by rw [hX];rfl
 have x3:X1[3]?=some (.slice Au 1 cu):=by rw [hX];rfl
 clear hX;have j4:=(BJ.cell 4).trans hJ4.out;have j13:=(BJ.cell 13).trans hJ13.out;have e2:=(BX.cell 2).trans x2;have e3:=(BX.cell 3).trans x3;have c0:=BO.cell 0;have c1:=BO.cell 1;have c2:=BO.cell 2;have c3:=BO.cell 3
 have q16:Calls prog 16 #[.agg #[.int .i64 3,.int .i64 7,.slice none 0 0,.slice none 0 0]] w13 (Ret (.int .i64 0) w13):=by
  have h:=sO oS none none 0 0 [] w13 Aj (aao _) (aad _) xE (fun x hx=>by cases hx) (aao _) (hG.below hb);rw [show oS.err=0 from Tf] at h;exact h
 go_wp2_with fail;refine q16.mono ?_;rintro e w14 ⟨rfl,b14⟩;clear q16 j4 j13 e2 e3 c0 c1 c2 c3;replace BO:=BO.below b14 BO.lt;replace BL:=BL.below b14 BL.lt;replace BT:=BT.below b14 BT.lt;replace BX:=BX.below b14 BX.lt;replace BJ:=BJ.below b14 BJ.lt;replace TA:=aab ((TA.out.below b14).more b14.size);replace hat:Hid (∀ w2,KeepsW w14 w2→OfAt w2 w2.heap.size X1 xS∧JwAt w2 w2.heap.size J1 kS):=aab (fun w2 k=>hat.out w2 ((KeepsW.below b14).trans k));replace hb:=ah hb b14;replace hm2:Hid (∀ w2,KeepsW w14 w2→Rd w2 w2.heap.size 6 m2 1 (kS.mix.out.flatMap Ltr.cl)):=aab (fun w2 k=>hm2.out w2 ((KeepsW.below b14).trans k));clear b14
 have q17:Calls prog 16 #[.agg X1] w14 (Ret (.int .i64 0) w14):=by
  obtain ⟨A',c',vs',Au',cu',hX',a1,a2,a3,a4,a5,a6⟩:=(hat.out w14 (KeepsW.refl _)).1;rw [hX',←WA];exact sO xS A' Au' c' cu' vs' w14 a1 (by rw [yF.1];omega) a2 a4 a5 (by rw [yF.2];omega) (hG.below hb)
 have LX:=bg BX underlying25 rfl (by rw [hX4];exact iM);dsimp only
 (refine ‹∀ (a:Act) (w:World),wpList _ _ _ _ a w→_› _ _ ?_)
 iterate 8 go_step
 refine aP (by rfl) (by rfl) (by rfl) LX ?_;simp only [Act.put];go_wp2_with fail;refine q17.mono ?_;rintro e w15 ⟨rfl,b15⟩;clear q17 LX;replace BO:=BO.below b15 BO.lt;replace BL:=BL.below b15 BL.lt;replace BT:=BT.below b15 BT.lt;replace BX:=BX.below b15 BX.lt;replace BJ:=BJ.below b15 BJ.lt;replace TA:=aab ((TA.out.below b15).more b15.size);replace hat:Hid (∀ w2,KeepsW w15 w2→OfAt w2 w2.heap.size X1 xS∧JwAt w2 w2.heap.size J1 kS):=aab (fun w2 k=>hat.out w2 ((KeepsW.below b15).trans k));replace hb:=ah hb b15;replace hm2:Hid (∀ w2,KeepsW w15 w2→Rd w2 w2.heap.size 6 m2 1 (kS.mix.out.flatMap Ltr.cl)):=aab (fun w2 k=>hm2.out w2 ((KeepsW.below b15).trans k));clear b15
 have q18:Calls prog 16 #[.agg #[.int .i64 0,.int .i64 0,.slice none 0 0,.slice none 0 0]] w15 (Ret (.int .i64 490) w15):=by
  have h:=sO ⟨0,0,[],[]⟩ none none 0 0 [] w15 Aj (aao _) (aad _) xE (fun x hx=>by cases hx) (aao _) (hG.below hb);rw [show (⟨0,0,[],[]⟩:Ofc).err=490 from Td] at h;exact h
 go_wp2_with fail;refine q18.mono ?_;rintro e w16 ⟨rfl,b16⟩;clear q18;replace BO:=BO.below b16 BO.lt;replace BL:=BL.below b16 BL.lt;replace BT:=BT.below b16 BT.lt;replace BX:=BX.below b16 BX.lt;replace BJ:=BJ.below b16 BJ.lt;replace TA:=aab ((TA.out.below b16).more b16.size);replace hat:Hid (∀ w2,KeepsW w16 w2→OfAt w2 w2.heap.size X1 xS∧JwAt w2 w2.heap.size J1 kS):=aab (fun w2 k=>hat.out w2 ((KeepsW.below b16).trans k));replace hb:=ah hb b16;have hmR:=hm2.out w16 (KeepsW.below b16);clear b16 hm2;rw [hy.out] at hmR;go_upto_region 18 with fail;have j4:=(BJ.cell 4).trans hJ4.out;obtain ⟨bo,oo,rfl,hbo,y0,y1,y2,y3,y4,y5⟩:=jS (k:=0) hmR (by omega) rfl;have q19:=wF 2 y w16;have hs2:iO 2=true:=by decide
 rw [(show rJ 2 y=stripL 2 y by unfold rJ;rw [if_pos hs2,if_pos hyg]),(show rM 2 y=0 by unfold rM;rw [if_pos hs2,if_pos hyg])] at q19;obtain ⟨u,hu⟩:∃ u,Hid (stripL 2 y=u):=⟨_,aab rfl⟩
 have hug:u.good=true:=by rw [←hu.out];exact iY hyg
 rw [hu.out] at q19 hyr;unfold Ltr.agg at q19;simp only [Nat.zero_mul,aa9] at y0 y1 y2 y3 y4 y5;go_wp2_with fail;refine q19.mono ?_;rintro e w17 ⟨rfl,b17⟩;clear q19 y0 y1 y2 y3 y4 y5 j4;replace BL:=BL.below b17 BL.lt;replace BT:=BT.below b17 BT.lt;replace BJ:=BJ.below b17 BJ.lt;replace TA:=aab ((TA.out.below b17).more b17.size);replace hat:Hid (∀ w2,KeepsW w17 w2→OfAt w2 w2.heap.size X1 xS∧JwAt w2 w2.heap.size J1 kS):=aab (fun w2 k=>hat.out w2 ((KeepsW.below b17).trans k));replace hb:=ah hb b17;clear b17 hmR;have BV:=Blk.new w17 63 #[.int .i64 u.a0,.int .i64 u.b0,.int .i64 u.a1,.int .i64 u.b1,.int .i64 u.a2,.int .i64 u.b2] _ rfl;have b18:=bAl (aj w17) (.cells #[.int .i64 u.a0,.int .i64 u.b0,.int .i64 u.a1,.int .i64 u.b1,.int .i64 u.a2,.int .i64 u.b2] 63);go_upto_region 19 with fail;generalize w17.alloc (.cells #[.int .i64 u.a0,.int .i64 u.b0,.int .i64 u.a1,.int .i64 u.b1,.int .i64 u.a2,.int .i64 u.b2] 63)=w18 at *;replace BL:=BL.below b18 BL.lt;replace BT:=BT.below b18 BT.lt;replace BJ:=BJ.below b18 BJ.lt;replace TA:=aab ((TA.out.below b18).more b18.size);replace hat:Hid (∀ w2,KeepsW w18 w2→OfAt w2 w2.heap.size X1 xS∧JwAt w2 w2.heap.size J1 kS):=aab (fun w2 k=>hat.out w2 ((KeepsW.below b18).trans k));replace hb:=ah hb b18;clear b18;obtain ⟨g0,g1',g2',g3,g4,g5⟩:=BV.six;have q20:=EZ u w18;rw [hyr.out,(show u.err=0 by unfold Ltr.err;rw [if_pos hug]),(show w3S.agg = .agg #[.int .i64 5,.int .i64 6,.int .i64 7] from rfl)] at q20;unfold Ltr.agg at q20;go_wp2_with fail;refine q20.mono ?_
 rintro e w19 ⟨rfl,b19⟩;clear q20 g0 g1' g2' g3 g4 g5 BV;replace BL:=BL.below b19 BL.lt;replace BT:=BT.below b19 BT.lt;replace BJ:=BJ.below b19 BJ.lt;replace TA:=aab ((TA.out.below b19).more b19.size);replace hat:Hid (∀ w2,KeepsW w19 w2→OfAt w2 w2.heap.size X1 xS∧JwAt w2 w2.heap.size J1 kS):=aab (fun w2 k=>hat.out w2 ((KeepsW.below b19).trans k));replace hb:=ah hb b19;clear b19;have BW:=Blk.new w19 95 #[.int .i64 5,.int .i64 6,.int .i64 7] _ rfl;have b20:=bAl (aj w19) (.cells #[.int .i64 5,.int .i64 6,.int .i64 7] 95);go_upto_region 20 with fail;generalize w19.alloc (.cells #[.int .i64 5,.int .i64 6,.int .i64 7] 95)=w20 at *;replace BL:=BL.below b20 BL.lt;replace BT:=BT.below b20 BT.lt;replace BJ:=BJ.below b20 BJ.lt;replace TA:=aab ((TA.out.below b20).more b20.size);replace hat:Hid (∀ w2,KeepsW w20 w2→OfAt w2 w2.heap.size X1 xS∧JwAt w2 w2.heap.size J1 kS):=aab (fun w2 k=>hat.out w2 ((KeepsW.below b20).trans k));replace hb:=ah hb b20;clear b20;generalize w19.heap.size=wdb at *;have hTs:TC.size=5:=by rw [hTC.out];rfl
 have LT:=bg BT underlying39 rfl (by rw [hTs];kernel_rfl);have bA:=bAl (aj w20) (.cells #[.int .i64 1] 3)
 have q21:Calls prog 27 #[.agg TC,.slice (some ⟨w20.heap.size,0,none⟩) 1 1] (w20.alloc (.cells #[.int .i64 1] 3)) (Nk tO [1] (w20.alloc (.cells #[.int .i64 1] 3))):=by
  have h:=Nl _ tO (some ⟨w20.heap.size,0,none⟩) 1 [1] _ ((TA.out.below bA).more bA.size) (Rd.new w20 (ints [1]) 3 1 1 _ rfl rfl) (by simp);rw [hTC.out];exact h
 apply wp_region_lit;refine aP (by rfl) (by rfl) (by rfl) LT ?_;simp only [Act.put];go_wp2_with fail;refine q21.mono ?_;rintro e w21 ⟨b21,-,hy'⟩;have hop:sD tO [1]=0:=by decide
 obtain ⟨ov,rfl,own⟩:=hy' hop;clear hy' hop q21 LT
 obtain ⟨D,dc,rfl,hD⟩:∃ D dc,ov = .slice D 1 dc∧Rd w21 w21.heap.size 36 D 1 ((tO.opens [1]).flatMap Opn.cl):=by
  obtain ⟨D,dc,e,r,_⟩:=Sl.of_own own;exact ⟨D,dc,e,r⟩
 clear own;replace b21:=ah bA b21;clear bA;replace BL:=BL.below b21 BL.lt;replace BT:=BT.below b21 BT.lt;replace BJ:=BJ.below b21 BJ.lt;replace BW:=BW.below b21 BW.lt;replace TA:=aab ((TA.out.below b21).more b21.size);replace hat:Hid (∀ w2,KeepsW w21 w2→OfAt w2 w2.heap.size X1 xS∧JwAt w2 w2.heap.size J1 kS):=aab (fun w2 k=>hat.out w2 ((KeepsW.below b21).trans k));replace hb:=ah hb b21;clear b21
 have hOp:∀ o∈tO.opens [1],o.ok:=by
  intro x hx;unfold Trn.opens at hx;obtain ⟨j,hj,rfl⟩:=aaK.1 hx;obtain ⟨⟨a,_⟩,b,_⟩:=wS TA.out 1 SY (aaE.1 hj);unfold Trn.half
  split
  ·exact a
  ·exact b
 go_upto_region 21 with fail;have r0:=BW.cell 0;have r1:=BW.cell 1;have r2:=BW.cell 2;obtain ⟨l0,l1,l2,l3,l4,l5⟩:=BL.six
 have hne:(Op.equalIn 10000 95 (.agg #[.int .i64 5,.int .i64 6,.int .i64 7]) (.agg #[.int .i64 5,.int .i64 6,.int .i64 7])).run prog w21 = .ok true w21:=by
  rw [NY];rfl
 have bA:=bAl (bAl (aj w21) (.cells #[.int .i64 L.a0,.int .i64 L.b0,.int .i64 L.a1,.int .i64 L.b1,.int .i64 L.a2,.int .i64 L.b2] 63)) (.cells #[.int .i64 1] 3);have q22:=vG (dc:=dc) (hG.below (ah hb bA)) ((Blk.new w21 63 #[.int .i64 L.a0,.int .i64 L.b0,.int .i64 L.a1,.int .i64 L.b1,.int .i64 L.a2,.int .i64 L.b2] _ rfl).alloc (.cells #[.int .i64 1] 3)) (Blk.new (w21.alloc (.cells #[.int .i64 L.a0,.int .i64 L.b0,.int .i64 L.a1,.int .i64 L.b1,.int .i64 L.a2,.int .i64 L.b2] 63)) 3 #[.int .i64 1] (w21.heap.size+1) (by simp)) (hat.out _ (KeepsW.below bA)).2 ((hD.below bA).more bA.size) hOp rfl yG;rw [(show jc 16384 16 [L] kS [1] (tO.opens [1])=0 by rw [←hL.out];exact CW)] at q22;have LJ:=bg (BJ.alloc (.cells #[.int .i64 L.a0,.int .i64 L.b0,.int .i64 L.a1,.int .i64 L.b1,.int .i64 L.a2,.int .i64 L.b2] 63)) underlying49 rfl (by rw [hJ49];exact eG);apply wp_region_lit
 iterate 47 go_step
 refine aP (by rfl) (by rfl) (by rfl) LJ ?_;simp only [Act.put];go_wp2_with fail;refine q22.mono ?_;rintro e w22 ⟨rfl,b22⟩;replace b22:=ah bA b22;clear q22 LJ r0 r1 r2 l0 l1 l2 l3 l4 l5 hne bA BW;replace BL:=BL.below b22 BL.lt;replace BJ:=BJ.below b22 BJ.lt;replace hat:Hid (∀ w2,KeepsW w22 w2→OfAt w2 w2.heap.size X1 xS∧JwAt w2 w2.heap.size J1 kS):=aab (fun w2 k=>hat.out w2 ((KeepsW.below b22).trans k));replace hD:=(hD.below b22).more b22.size;replace hb:=ah hb b22;clear b22;go_upto_region 23 with fail;have j1:=(yE (hat.out w22 (KeepsW.refl _)).2).2;have LJ:=bg BJ underlying49 rfl (by rw [hJ49];exact eG);apply wp_region_lit;refine aP (by rfl) (by rfl) (by rfl) LJ ?_;simp only [Act.put]
 iterate 3 go_step
 refine aG (v := .agg J1) (by rfl) (by rfl) (by rfl) (by rfl) (bP (old:=bC.toArray) (by rw [hJ49];exact eG) (by rw [hJ49];exact dW) j1) ?_;simp only [Act.put];have BK:=Blk.new w22 49 J1 _ rfl;have bA:=bAl (aj w22) (.cells J1 49);generalize w22.alloc (.cells J1 49)=w23 at *;have hle:w22.heap.size≤w22.heap.size:=aad _;go_upto_region 24 with fail;have k13:=(BK.cell 13).trans hJ13.out;have f13:=BK.frozen 13;go_upto_region 25 with fail;replace BK:=BK.set_ 13 (.int .i64 2);replace bA:=zQ7 bA (p:=⟨w22.heap.size,13,none⟩) hle (.int .i64 2);clear k13 f13 LJ hle j1;generalize w23.setCell ⟨w22.heap.size,13,none⟩ (.int .i64 2)=w24 at *;replace BL:=BL.below bA BL.lt;replace BJ:=BJ.below bA BJ.lt;replace hat:Hid (∀ w2,KeepsW w24 w2→OfAt w2 w2.heap.size X1 xS∧JwAt w2 w2.heap.size J1 kS):=aab (fun w2 k=>hat.out w2 ((KeepsW.below bA).trans k));replace hD:=(hD.below bA).more bA.size;replace hb:=ah hb bA;clear bA;generalize w22.heap.size=kb at *
 have hat2:Hid (∀ w2,KeepsW w24 w2→JwAt w2 w2.heap.size (J1.setIfInBounds 13 (.int .i64 2)) { kS with hand:={ kS.hand with many:=2 } }):=aab (fun w2 k=>by
  obtain ⟨A1,A2',e1,e2,ms,h1,h2,h3,h4,h5⟩:=(hat.out w2 k).2;exact ⟨A1,A2',e1,e2,ms,by rw [h1,TN],h2,h3,h4,Hd.ok_many h5 ⟨by omega,by omega⟩⟩)
 have hK49:(J1.setIfInBounds 13 (.int .i64 2)).size=49:=by rw [Array.size_setIfInBounds,hJ49]
 generalize J1.setIfInBounds 13 (.int .i64 2)=J2 at *;obtain ⟨l0,l1,l2,l3,l4,l5⟩:=BL.six;have bA:=bAl (bAl (aj w24) (.cells #[.int .i64 L.a0,.int .i64 L.b0,.int .i64 L.a1,.int .i64 L.b1,.int .i64 L.a2,.int .i64 L.b2] 63)) (.cells #[.int .i64 1] 3);have q25:=vG (dc:=dc) (hG.below (ah hb bA)) ((Blk.new w24 63 #[.int .i64 L.a0,.int .i64 L.b0,.int .i64 L.a1,.int .i64 L.b1,.int .i64 L.a2,.int .i64 L.b2] _ rfl).alloc (.cells #[.int .i64 1] 3)) (Blk.new (w24.alloc (.cells #[.int .i64 L.a0,.int .i64 L.b0,.int .i64 L.a1,.int .i64 L.b1,.int .i64 L.a2,.int .i64 L.b2] 63)) 3 #[.int .i64 1] (w24.heap.size+1) (by simp)) (hat2.out _ (KeepsW.below bA)) ((hD.below bA).more bA.size) hOp rfl yG;rw [(show jc 16384 16 [L] { kS with hand:={ kS.hand with many:=2 } } [1] (tO.opens [1])=2 by rw [←hL.out];exact KZ _ rfl)] at q25;have LK:=bg (BK.alloc (.cells #[.int .i64 L.a0,.int .i64 L.b0,.int .i64 L.a1,.int .i64 L.b1,.int .i64 L.a2,.int .i64 L.b2] 63)) underlying49 rfl (by rw [hK49];exact eG);apply wp_region_lit
 iterate 9 go_step
 refine aP (by rfl) (by rfl) (by rfl) LK ?_;simp only [Act.put];go_wp2_with fail;refine q25.mono ?_;rintro e w25 ⟨rfl,b25⟩;replace b25:=ah bA b25;clear q25 LK l0 l1 l2 l3 l4 l5 bA BK hat2 hK49;replace BL:=BL.below b25 BL.lt;replace BJ:=BJ.below b25 BJ.lt;replace hat:Hid (∀ w2,KeepsW w25 w2→OfAt w2 w2.heap.size X1 xS∧JwAt w2 w2.heap.size J1 kS):=aab (fun w2 k=>hat.out w2 ((KeepsW.below b25).trans k));replace hD:=(hD.below b25).more b25.size;replace hb:=ah hb b25;clear b25;obtain ⟨l0,l1,l2,l3,l4,l5⟩:=BL.six;have bA:=bAl (bAl (aj w25) (.cells #[.int .i64 L.a0,.int .i64 L.b0,.int .i64 L.a1,.int .i64 L.b1,.int .i64 L.a2,.int .i64 L.b2] 63)) (.cells #[.int .i64 0] 3);have q26:=vG (dc:=dc) (hG.below (ah hb bA)) ((Blk.new w25 63 #[.int .i64 L.a0,.int .i64 L.b0,.int .i64 L.a1,.int .i64 L.b1,.int .i64 L.a2,.int .i64 L.b2] _ rfl).alloc (.cells #[.int .i64 0] 3)) (Blk.new (w25.alloc (.cells #[.int .i64 L.a0,.int .i64 L.b0,.int .i64 L.a1,.int .i64 L.b1,.int .i64 L.a2,.int .i64 L.b2] 63)) 3 #[.int .i64 0] (w25.heap.size+1) (by simp)) (hat.out _ (KeepsW.below bA)).2 ((hD.below bA).more bA.size) hOp rfl yG;rw [(show jc 16384 16 [L] kS [0] (tO.opens [1])=4 by rw [←hL.out];exact La)] at q26;have LJ:=bg (BJ.alloc (.cells #[.int .i64 L.a0,.int .i64 L.b0,.int .i64 L.a1,.int .i64 L.b1,.int .i64 L.a2,.int .i64 L.b2] 63)) underlying49 rfl (by rw [hJ49];exact eG);dsimp only
 (refine ‹∀ (a:Act) (w:World),wpList _ _ _ _ a w→_› _ _ ?_)
 iterate 12 go_step
 refine aP (by rfl) (by rfl) (by rfl) LJ ?_;simp only [Act.put];go_wp2_with fail;refine q26.mono ?_;rintro e w26 ⟨rfl,b26⟩;replace b26:=ah bA b26;clear q26 LJ l0 l1 l2 l3 l4 l5 bA;replace BL:=BL.below b26 BL.lt;replace BJ:=BJ.below b26 BJ.lt;replace hat:Hid (∀ w2,KeepsW w26 w2→OfAt w2 w2.heap.size X1 xS∧JwAt w2 w2.heap.size J1 kS):=aab (fun w2 k=>hat.out w2 ((KeepsW.below b26).trans k));replace hD:=(hD.below b26).more b26.size;replace hb:=ah hb b26;clear b26 BL
 have q27:Calls prog 20 #[.int .i64 16,.int .i64 16,.slice none 0 0,.agg J1,.slice none 0 0,.slice none 0 0] w26 (Ret (.int .i64 3) w26):=by
  obtain ⟨l1,l2,l3,l4,l5,l6,l7⟩:=yG
  have h:=xC 16 16 ⟨by omega,by omega⟩ none none none 0 0 0 [] J1 kS [] [] w26 ⟨rfl,fun h=>by cases h⟩ (hat.out _ (KeepsW.refl _)).2 ⟨rfl,fun h=>by cases h⟩ ⟨rfl,fun h=>by cases h⟩ (fun x hx=>(by cases hx))
   ⟨by simp,by omega,by omega,by simp,by simp⟩ ⟨by omega,by omega,by omega,by omega,by omega⟩ (hG.below hb)
  rw [Lc] at h;exact h
 have LJ:=bg BJ underlying49 rfl (by rw [hJ49];exact eG);dsimp only
 (refine ‹∀ (a:Act) (w:World),wpList _ _ _ _ a w→_› _ _ ?_)
 iterate 8 go_step
 refine aP (by rfl) (by rfl) (by rfl) LJ ?_;simp only [Act.put];go_wp2_with fail;refine q27.mono ?_;rintro e w27 ⟨rfl,b27⟩;replace hb:=ah hb b27;clear q27 LJ b27
 have q28:Calls prog 20 #[.int .i64 4,.int .i64 4,.slice none 0 0,.agg bC.toArray,.slice none 0 0,.slice none 0 0] w27 (Ret (.int .i64 2) w27):=by
  have h:=xC 4 4 ⟨by omega,by omega⟩ none none none 0 0 0 [] bC.toArray vw [] [] w27 ⟨rfl,fun h=>by cases h⟩ Vt ⟨rfl,fun h=>by cases h⟩ ⟨rfl,fun h=>by cases h⟩ (fun x hx=>(by cases hx))
   ⟨by simp,by decide,by decide,by simp,by simp⟩ ⟨by decide,by decide,by decide,by decide,by decide⟩ (hG.below hb)
  rw [IW] at h;exact h
 dsimp only
 (refine ‹∀ (a:Act) (w:World),wpList _ _ _ _ a w→_› _ _ ?_)
 iterate 8 go_step
 refine lT (by rfl) (by rfl) (by rfl) yz ?_;simp only [Act.put];go_wp2_with fail;refine q28.mono ?_;rintro e w28 ⟨rfl,b28⟩;go_wp2_with fail;go_ret;exact ⟨rfl,ah hb b28⟩
end Go.Proofs.YthbibbkbaphpkaaGreatDoor

/- frankinglaw49.OfficeHonest, walked. -/
import Derived.Test.YthbibbkbaphpkaaGreatDoorMay
import Derived.Test.YthbibbkbaphpkaaGreatDoorMbb
set_option maxHeartbeats 16000000
set_option maxRecDepth 1000000
namespace Go.Proofs.YthbibbkbaphpkaaGreatDoor
open _root_.Go.Proofs.Tryz
open Go Go.RowKit
theorem Qd {o:Ofc} {n:Nat} {t:Trn} (h:Jd o n t=true):o.chain.length≤16∧(∀ x∈o.chain,x.data.length≤300)∧o.used.length≤40:=by
 unfold Jd FZ at h;simp only [aal,decide_eq_true_eq,aau] at h;exact ⟨h.1.1,h.1.2,h.2.1⟩
theorem yI (o:Ofc) (rest:Int) (h:Hd) (inn:List Ltr) (t:Trn):(lh o rest h inn t).bare.length=inn.length∧(lh o rest h inn t).proofs.length=inn.length∧(lh o rest h inn t).mix.inn.length=inn.length∧(lh o rest h inn t).mix.mid.length=inn.length∧(lh o rest h inn t).mix.out.length=inn.length∧(lh o rest h inn t).mix.left.length=inn.length∧(lh o rest h inn t).mix.right.length=inn.length:=by
 have hb:(bu o.secret inn).length=inn.length:=dJ _ _;refine ⟨hb,?_,hb,?_,?_,?_,?_⟩
 ·show (nV o.secret inn).length=_
  simp [nV]
 ·show (t.mid rest (bu o.secret inn) (bu o.secret inn).length).length=_
  rw [Trn.mid_length,hb]
 ·show (t.out rest (bu o.secret inn) (bu o.secret inn).length).length=_
  rw [Trn.out_length,hb]
 ·show (Trn.coms _ _ (bu o.secret inn).length).length=_
  simp [Trn.coms,hb]
 ·show (Trn.coms _ _ (bu o.secret inn).length).length=_
  simp [Trn.coms,hb]
theorem Mc {s:Int} {x:Ltr} (hx:x.good=true):x.by (iE s)=stripL s x:=by
 have h:=Iw (s:=s) (l:=[x]) (k:=0) rfl hx;unfold bu at h;simpa using h
theorem Un {t:Trn} {s:TS} {w:World} {B:Nat} (h:TurnAt w B s t) {bits:List Int} (hf:t.fit (bits.length:Int)=true):∀ x∈t.opens bits,x.ok:=by
 intro x hx;unfold Trn.opens at hx;obtain ⟨j,hj,rfl⟩:=aaK.1 hx;have hj':=aaE.1 hj;obtain ⟨⟨a,_⟩,b,_⟩:=wS h _ hf hj';unfold Trn.half
 split
 ·exact a
 ·exact b
theorem Qe (X:Array Value) (o:Ofc) (bh:Nat) (h:Hd) (A2:Option Addr) (c2:Nat) (inn:List Ltr) (s:TS) (t:Trn) (A3:Option Addr) (c3:Nat) (bits:List Int) (W:World) (hG:ShaG W) (hO:Xz W X.toList o) (hbh:bh<4294967296) (ho:h.ok) (hI:WW W A2 inn) (hT:TurnAt W W.heap.size s t) (hB:IntsIn W A3 bits) :
  Calls prog 8 #[.agg X,.int .u32 (bh:Nat),.agg h.cl.toArray,.slice A2 inn.length c2,.agg (s.cl t),.slice A3 bits.length c3] W (Ret (.bool true) W):=by
 obtain ⟨A,c,vs,Au,cu,hX,hA,hcap,hnilA,hU,hok,hnilU,ino,isec⟩:=hO;obtain rfl:X=#[.int .i64 o.no,.int .i64 o.secret,.slice A o.chain.length c,.slice Au o.used.length cu]:=Array.toList_inj.1 hX;clear hX ino isec;obtain ⟨hI0,hio,hin⟩:=hI;obtain ⟨hB0,hbi,hbn⟩:=hB;have hcl:Hid (h.cl.toArray.size=42):=aab (by simpa using Hd.cl_length ho);have hone:Hid (∀ v∈h.cl.toArray.toList,v.oneCell'=true):=aab (by simpa using Hd.one h);obtain ⟨hC,hhC⟩:∃ hC,Hid (h.cl.toArray=hC):=⟨_,aab rfl⟩
 rw [hhC.out] at hcl hone ⊢;obtain ⟨a0,a1,a2,a3,a4,k0,k1,k2,k3,k4⟩:=s;have hTs:(⟨a0,a1,a2,a3,a4,k0,k1,k2,k3,k4⟩:TS).cl t=#[.slice a0 t.left.length k0,.slice a1 t.right.length k1,.slice a2 t.rl.length k2,.slice a3 t.rr.length k3,.slice a4 t.salts.length k4]:=rfl;rw [hTs];have hb:=bAl (bAl (bAl (aj W) (.cells #[.int .i64 o.no,.int .i64 o.secret,.slice A o.chain.length c,.slice Au o.used.length cu] 25)) (.cells hC 33)) (.cells #[.slice a0 t.left.length k0,.slice a1 t.right.length k1,.slice a2 t.rl.length k2,.slice a3 t.rr.length k3,.slice a4 t.salts.length k4] 39);have BO:=((Blk.new W 25 #[.int .i64 o.no,.int .i64 o.secret,.slice A o.chain.length c,.slice Au o.used.length cu] _ rfl).alloc (.cells hC 33)).alloc (.cells #[.slice a0 t.left.length k0,.slice a1 t.right.length k1,.slice a2 t.rl.length k2,.slice a3 t.rr.length k3,.slice a4 t.salts.length k4] 39);have BH:=(Blk.new (W.alloc (.cells #[.int .i64 o.no,.int .i64 o.secret,.slice A o.chain.length c,.slice Au o.used.length cu] 25)) 33 hC (W.heap.size+1) (by simp)).alloc (.cells #[.slice a0 t.left.length k0,.slice a1 t.right.length k1,.slice a2 t.rl.length k2,.slice a3 t.rr.length k3,.slice a4 t.salts.length k4] 39);have BT:=Blk.new ((W.alloc (.cells #[.int .i64 o.no,.int .i64 o.secret,.slice A o.chain.length c,.slice Au o.used.length cu] 25)).alloc (.cells hC 33)) 39 #[.slice a0 t.left.length k0,.slice a1 t.right.length k1,.slice a2 t.rl.length k2,.slice a3 t.rr.length k3,.slice a4 t.salts.length k4] (W.heap.size+1+1) (by simp);go_enter func8,ntmps8
 go_upto_region 1 with fail;generalize ((W.alloc (.cells #[.int .i64 o.no,.int .i64 o.secret,.slice A o.chain.length c,.slice Au o.used.length cu] 25)).alloc (.cells hC 33)).alloc (.cells #[.slice a0 t.left.length k0,.slice a1 t.right.length k1,.slice a2 t.rl.length k2,.slice a3 t.rr.length k3,.slice a4 t.salts.length k4] 39)=w1 at *;have q0:=Vw w1 (hG.below hb);go_wp2_with fail;refine q0.mono ?_;rintro e w2 ⟨rfl,b2⟩;clear q0;replace BO:=BO.below b2 BO.lt;replace BH:=BH.below b2 BH.lt;replace BT:=BT.below b2 BT.lt;replace hb:=ah hb b2;clear b2 w1;have i1:(0:Int)≤(bh:Int):=by omega
 have i2:(bh:Int)≤4294967295:=by omega
 go_upto_region 4 with fail;have c0:=BO.cell 0;have c1:=BO.cell 1;have c2':=BO.cell 2;have c3':=BO.cell 3;have d0:=BT.cell 0;have d1:=BT.cell 1;have d2:=BT.cell 2;have d3:=BT.cell 3;have d4:=BT.cell 4;have q1:=PX o A Au A2 c cu inn.length c2 vs ⟨a0,a1,a2,a3,a4,k0,k1,k2,k3,k4⟩ t w2 ((hA.below hb).more hb.size);rw [hTs] at q1;by_cases hf:Jd o inn.length t=true
 case neg =>
  rw [show Jd o inn.length t=false by simpa using hf] at q1;go_wp2_with fail;refine q1.mono ?_;rintro e w3 ⟨rfl,b3⟩;go_wp2_with fail;go_ret;exact ⟨rfl,ah hb b3⟩
 rw [hf] at q1;obtain ⟨f1,f2,f3⟩:=Qd hf;replace hA:=hA.strong (fun x hx=>aaj (f2 x hx) (by omega));clear f2 hf;by_cases h4:inn.length≤4
 case neg =>
  have e4:decide ((4:Int)<(inn.length:Int))=true:=decide_eq_true (by omega);go_wp2_with fail;refine q1.mono ?_;rintro e w3 ⟨rfl,b3⟩;go_wp2_with fail;go_ret;exact ⟨rfl,ah hb b3⟩
 have e4:decide ((4:Int)<(inn.length:Int))=false:=decide_eq_false (by omega);by_cases hlen:bits.length=inn.length
 case neg =>
  have e5:((bits.length:Int) != (inn.length:Int))=true:=by simp;omega
  clear hlen;go_wp2_with fail;refine q1.mono ?_;rintro e w3 ⟨rfl,b3⟩;go_wp2_with fail;go_ret;exact ⟨rfl,ah hb b3⟩
 have e5:((bits.length:Int) != (inn.length:Int))=false:=by simp;omega
 replace hlen:=aab hlen;cases hbit:bits.all eU
 case false =>
  go_wp2_with fail;refine q1.mono ?_;rintro e w3 ⟨rfl,b3⟩;have q2:=Je A3 c3 bits w3 ((hB0.below (ah hb b3)).more (ah hb b3).size) hbn;rw [hbit] at q2;clear hbit;go_wp2_with fail;refine q2.mono ?_;rintro e w4 ⟨rfl,rfl⟩;go_wp2_with fail;go_ret;exact ⟨rfl,ah hb b3⟩
 go_wp2_with fail;refine q1.mono ?_;rintro e w3 ⟨rfl,b3⟩;clear q1 c0 c1 c2' c3' d0 d1 d2 d3 d4;replace BO:=BO.below b3 BO.lt;replace BH:=BH.below b3 BH.lt;replace BT:=BT.below b3 BT.lt;replace hb:=ah hb b3;clear b3 w2;have q2:=Je A3 c3 bits w3 ((hB0.below hb).more hb.size) hbn;rw [hbit] at q2;replace hbit:=aab hbit;go_wp2_with fail;refine q2.mono ?_;rintro e w4 ⟨rfl,rfl⟩;clear q2;have hS:=Uf bh;unfold WP at hS;go_upto_region 6 with fail;clear e4 e5 i1 i2;generalize 1+(bh:Int) % 1073741788=S at *;have q6:=pM S w3;obtain ⟨R,hR⟩:∃ R,Hid (aJ 4 S=R):=⟨_,aab rfl⟩
 rw [(Gi hS).1,(Gi hS).2,hR.out] at q6;go_wp2_with fail;refine q6.mono ?_;rintro e w5 ⟨rfl,b5⟩;clear q6;replace BO:=BO.below b5 BO.lt;replace BH:=BH.below b5 BH.lt;replace BT:=BT.below b5 BT.lt;replace hb:=ah hb b5;clear b5 w3;go_upto_region 7 with fail;have c0:=BO.cell 0;have c1:=BO.cell 1;have c2':=BO.cell 2;have c3':=BO.cell 3;have d0:=BT.cell 0;have d1:=BT.cell 1;have d2:=BT.cell 2;have d3:=BT.cell 3;have d4:=BT.cell 4;have LH:=bg BH underlying33 rfl (by rw [hcl.out];exact cO);have q7:=Ai o A Au A2 c cu c2 vs R h inn ⟨a0,a1,a2,a3,a4,k0,k1,k2,k3,k4⟩ t w5 ((hA.below hb).more hb.size) (by omega) hcap hnilA ((hU.below hb).more hb.size) hok (by omega) hnilU ho ((hI0.below hb).more hb.size) (by omega) hio ((hT.below hb).more hb.size) (hG.below hb);rw [hTs,hhC.out] at q7;apply wp_region_lit
 iterate 6 go_step
 refine aP (by rfl) (by rfl) (by rfl) LH ?_;simp only [Act.put];go_wp2_with fail;refine q7.mono ?_;rintro e w6 hr;obtain ⟨b6,X1,J1,rfl,x4,x1,j49,j1,hno,hyes⟩:=hr.split;clear hr q7 c0 c1 c2' c3' d0 d1 d2 d3 d4 LH;obtain ⟨E,hE⟩:∃ E,Hid (dh o R h inn t=E):=⟨_,aab rfl⟩
 rw [hE.out] at hno hyes ⊢;dsimp only
 (refine ‹∀ (a:Act) (w:World),wpList _ _ _ _ a w→_› _ _ ?_)
 iterate 18 go_step
 change wpList _ _ _ _ _ ((w6.alloc (.cells bK 25)).alloc (.cells bC.toArray 49));have BX:=(Blk.new w6 25 bK _ rfl).alloc (.cells bC.toArray 49);have BJ:=Blk.new (w6.alloc (.cells bK 25)) 49 bC.toArray (w6.heap.size+1) (by simp);have b67:=bAl (bAl (aj w6) (.cells bK 25)) (.cells bC.toArray 49);generalize (w6.alloc (.cells bK 25)).alloc (.cells bC.toArray 49)=w7 at *;refine aG (q := .pointer (some ⟨w6.heap.size,0,none⟩)) (v := .agg X1) (by rfl) (by rfl) (by rfl) (by rfl) (aQ BX (by rw [x4];exact iM) (by rw [x4];rfl) x1) ?_;simp only [Act.put];have BJ2:=BJ.farRowT BX (by decide) X1;refine aG (q := .pointer (some ⟨w6.heap.size+1,0,none⟩)) (v := .agg J1) (by rfl) (by rfl) (by rfl) (by rfl) (aQ BJ2 (by rw [j49];exact eG) (by rw [j49];exact dW) j1) ?_;simp only [Act.put];have BX3:=(BX.row X1).farRowT BJ2 (by decide) J1;have BJ3:=BJ2.row J1;have b68:=below_setRow (below_setRow b67 (aad _) X1) (Nat.le_succ _) J1;clear BX BJ BJ2 b67;generalize (w7.setRow w6.heap.size X1).setRow (w6.heap.size+1) J1=w8 at *;go_upto_region 8 with fail;have BX:=BX3;have BJ:=BJ3;clear BX3 BJ3 w7;have b8:=ah b6 b68;have hat:Hid (E=0→∀ w2,Below w8.heap.size w8 w2→OfAt w2 w2.heap.size X1 (oK o R h inn t)∧JwAt w2 w2.heap.size J1 (lh o R h inn t)):=aab (fun h0 w2 b=>hyes h0 w2 ((KeepsW.below b68).trans (KeepsW.below b)) (ah b8 b));replace hno:=aab hno;clear hyes b6 b68;replace BO:=BO.below b8 BO.lt;replace BH:=BH.below b8 BH.lt;replace BT:=BT.below b8 BT.lt;replace hb:=ah hb b8;clear b8 w5;generalize w6.heap.size+1=jb at *
 generalize w6.heap.size=xb at *;by_cases hE0:E=0
 case neg =>
  obtain ⟨rfl,rfl⟩:=hno.out hE0;have hE1:(E != 0)=true:=by simpa using hE0
  clear hE0 hno hat;go_upto_region 9 with fail;have y0:w8.cell? ⟨xb,0,none⟩=some (.int .i64 0):=(BX.cell 0).trans rfl;have y1:w8.cell? ⟨xb,1,none⟩=some (.int .i64 0):=(BX.cell 1).trans rfl;have y2:w8.cell? ⟨xb,2,none⟩=some (.slice none 0 0):=(BX.cell 2).trans rfl;have y3:w8.cell? ⟨xb,3,none⟩=some (.slice none 0 0):=(BX.cell 3).trans rfl;have q9:=Qb w8;unfold bK gK at q9;go_wp2_with fail;refine q9.mono ?_;rintro e w9 ⟨rfl,b9⟩;have LJ:=bg (BJ.below b9 BJ.lt) underlying49 rfl (by rw [dW];exact eG);have q10:=WQ w9;dsimp only
  (refine ‹∀ (a:Act) (w:World),wpList _ _ _ _ a w→_› _ _ ?_)
  iterate 6 go_step
  refine aP (by rfl) (by rfl) (by rfl) LJ ?_;simp only [Act.put];refine lT (by rfl) (by rfl) (by rfl) yz ?_;simp only [Act.put];go_wp2_with fail;refine q10.mono ?_;rintro e w10 ⟨rfl,b10⟩;go_wp2_with fail;go_ret;exact ⟨rfl,ah (ah hb b9) b10⟩
 subst hE0;replace hat:=aab (hat.out rfl);have hw:Hid (dh o R h inn t=0):=hE;clear hno hE;obtain ⟨hgood,hfrom,hform,hchk,hmix,-⟩:=iD hw.out;obtain ⟨hvR,-,-,hfit0⟩:=xm hw.out;have hfit:t.fit (inn.length:Int)=true:=by rw [dJ] at hfit0;exact hfit0
 have hsec:=zo hw.out;have hol:(lh o R h inn t).mix.out.length=inn.length:=(yI o R h inn t).2.2.2.2.1
 obtain ⟨m2,n2,hJ4⟩:∃ m2 n2,J1[4]?=some (.slice m2 inn.length n2):=by
  obtain ⟨A1,A2',e1,e2,ms,hJ1,_⟩:=(hat.out w8 (aj w8)).2;refine ⟨ms.a2,ms.c2,?_⟩;rw [hJ1,xG,hol]
 clear hfit0 hmix hchk hform hfrom hol;replace hJ4:=aab hJ4;go_upto_region 10 with fail;have c0:=BO.cell 0;have c1:=BO.cell 1;have c2':=BO.cell 2;have c3':=BO.cell 3;have q10:=LZ o A Au c cu vs w8 ((hA.below hb).more hb.size) (by omega) hcap ((hU.below hb).more hb.size) hok hgood;go_wp2_with fail;refine q10.mono ?_;rintro e w9 ⟨rfl,b9⟩;clear q10 c0 c1 c2' c3';replace BO:=BO.below b9 BO.lt;replace BH:=BH.below b9 BH.lt;replace BT:=BT.below b9 BT.lt;replace BX:=BX.below b9 BX.lt;replace BJ:=BJ.below b9 BJ.lt;replace hb:=ah hb b9;replace hat:=aab (fun w2 b=>hat.out w2 (ah b9 b));clear b9 w8;have d0:=BT.cell 0;have d1:=BT.cell 1;have d2:=BT.cell 2;have d3:=BT.cell 3;have d4:=BT.cell 4;have q11:=PY ⟨a0,a1,a2,a3,a4,k0,k1,k2,k3,k4⟩ t inn.length w9 ((hT.below hb).more hb.size) hfit;rw [hTs] at q11;go_wp2_with fail;refine q11.mono ?_;rintro e w10 ⟨rfl,b10⟩;clear q11 d0 d1 d2 d3 d4;replace BO:=BO.below b10 BO.lt;replace BH:=BH.below b10 BH.lt;replace BT:=BT.below b10 BT.lt;replace BX:=BX.below b10 BX.lt;replace BJ:=BJ.below b10 BJ.lt;replace hb:=ah hb b10;replace hat:=aab (fun w2 b=>hat.out w2 (ah b10 b));clear b10 w9;have y4:=(BJ.cell 4).trans hJ4.out;have c1:=BO.cell 1;go_upto_region 12 with fail;have q12:=pM o.secret w10;rw [(Gi hsec).2] at q12;obtain ⟨K,hK⟩:∃ K,Hid (pK o.secret=K):=⟨_,aab rfl⟩
 rw [hK.out] at q12;go_wp2_with fail;refine q12.mono ?_;rintro e w11 ⟨rfl,b11⟩;clear q12 y4 c1;replace BO:=BO.below b11 BO.lt;replace BH:=BH.below b11 BH.lt;replace BT:=BT.below b11 BT.lt;replace BX:=BX.below b11 BX.lt;replace BJ:=BJ.below b11 BJ.lt;replace hb:=ah hb b11;replace hat:=aab (fun w2 b=>hat.out w2 (ah b11 b));clear b11 w10;go_upto_region 13 with fail;have d0:=BT.cell 0;have d1:=BT.cell 1;have d2:=BT.cell 2;have d3:=BT.cell 3;have d4:=BT.cell 4;have hop:sD t bits=0:=by unfold sD;rw [hlen.out,if_pos hfit,if_pos hbit.out]
 have q13:=Nl ⟨a0,a1,a2,a3,a4,k0,k1,k2,k3,k4⟩ t A3 c3 bits w11 ((hT.below hb).more hb.size) ((hB0.below hb).more hb.size) (by rw [hlen.out];omega);rw [hTs] at q13;go_wp2_with fail;refine q13.mono ?_;rintro e w12 ⟨b12,-,hy⟩;obtain ⟨ov,rfl,own⟩:=hy hop;clear hy hop q13 d0 d1 d2 d3 d4
 obtain ⟨D,dc,rfl,hD⟩:∃ D dc,ov = .slice D bits.length dc∧Rd w12 w12.heap.size 36 D bits.length ((t.opens bits).flatMap Opn.cl):=by
  obtain ⟨D,dc,e,r,_⟩:=Sl.of_own own;exact ⟨D,dc,e,r⟩
 clear own;replace BO:=BO.below b12 BO.lt;replace BH:=BH.below b12 BH.lt;replace BT:=BT.below b12 BT.lt;replace BX:=BX.below b12 BX.lt;replace BJ:=BJ.below b12 BJ.lt;replace hb:=ah hb b12;replace hat:=aab (fun w2 b=>hat.out w2 (ah b12 b));clear b12 w11;go_upto_region 14 with fail;have d0:=BT.cell 0;have d1:=BT.cell 1;have d2:=BT.cell 2;have d3:=BT.cell 3;have d4:=BT.cell 4;have htl:=(Trn.fit_of hfit).1.1;have htr:qH t=0:=by unfold qH;rw [htl,if_pos hfit]
 have q14:=Rw ⟨a0,a1,a2,a3,a4,k0,k1,k2,k3,k4⟩ t w12 ((hT.below hb).more hb.size) (by omega);rw [hTs] at q14;replace htl:=aab htl;go_wp2_with fail;refine q14.mono ?_;rintro e w13 ⟨b13,-,hy⟩;obtain ⟨pg,rfl,hpg,BP⟩:=hy htr;clear hy htr q14 d0 d1 d2 d3 d4;rw [htl.out];replace hD:=(hD.below b13).more b13.size;replace BO:=BO.below b13 BO.lt;replace BH:=BH.below b13 BH.lt;replace BT:=BT.below b13 BT.lt;replace BX:=BX.below b13 BX.lt;replace BJ:=BJ.below b13 BJ.lt;replace hb:=ah hb b13;replace hat:=aab (fun w2 b=>hat.out w2 (ah b13 b));clear b13 hpg w12;go_upto_region 15 with fail;have LJ:=bg BJ underlying49 rfl (by rw [j49];exact eG);have hfitb:t.fit (bits.length:Int)=true:=by rw [hlen.out];exact hfit
 have q15:=xC K R (by rw [←hK.out,(Gi hsec).1];exact rW _ _) A2 A3 D c2 c3 dc inn J1 (lh o R h inn t) bits (t.opens bits) w13 ((hI0.below hb).more hb.size) (hat.out w13 (aj w13)).2 ((hB0.below hb).more hb.size) (by rw [Trn.opens_length];exact hD) (Un hT hfitb)
  (by obtain ⟨l1,l2,_⟩:=yI o R h inn t;rw [l1,l2,Trn.opens_length,hlen.out];omega) (by obtain ⟨l1,l2,l3,l4,l5,l6,l7⟩:=yI o R h inn t;rw [l3,l4,l5,l6,l7];omega) (hG.below hb)
 rw [←hK.out,xn hw.out bits hlen.out hbit.out,hK.out,Trn.opens_length] at q15;clear hfitb;have hlb:(bits.length:Int)=(inn.length:Int):=by rw [hlen.out]
 apply wp_region_lit
 iterate 51 go_step
 refine aP (by rfl) (by rfl) (by rfl) LJ ?_;simp only [Act.put];go_wp2_with fail;refine q15.mono ?_;rintro e w14 ⟨rfl,b14⟩;clear q15 LJ hlb;replace BO:=BO.below b14 BO.lt;replace BH:=BH.below b14 BH.lt;replace BT:=BT.below b14 BT.lt;replace BX:=BX.below b14 BX.lt;replace BJ:=BJ.below b14 BJ.lt;replace BP:=BP.below b14 BP.lt;replace hb:=ah hb b14;replace hat:=aab (fun w2 b=>hat.out w2 (ah b14 b));clear b14;go_upto_region 17 with fail;clear hD w13;obtain ⟨outs,houts⟩:∃ outs,Hid ((lh o R h inn t).mix.out=outs):=⟨_,aab rfl⟩
 have hRo:Rd w14 w14.heap.size 6 m2 inn.length (outs.flatMap Ltr.cl):=by
  obtain ⟨A1,A2',e1,e2,ms,hJ1,_,_,hM,_⟩:=(hat.out w14 (aj w14)).2;have h5:=hJ4.out;rw [hJ1] at h5;have h6:some (Value.slice ms.a2 (lh o R h inn t).mix.out.length ms.c2)=some (.slice m2 inn.length n2):=h5;injection h6 with h6
  injection h6 with h7 h8
  have h9:=hM.r2;rw [h7,h8,houts.out] at h9;exact h9
 have hsay:∀ (k:Nat) (x:Ltr),inn[k]?=some x→∃ (p:Nat) (y:Ltr),t.way[k]?=some (p:Int)∧p<inn.length∧outs[p]?=some y∧y.good=true∧x.good=true∧(stripL o.secret x).good=true∧kY (stripL S y)=kY (stripL S (stripL o.secret x)):=by
  intro k x hx;obtain ⟨p,y,g1,g2,g3,g4,g5,g6,g7⟩:=Et hw.out hR.out.symm hx;rw [Mc g5] at g6 g7;exact ⟨p,y,g1,g2,by rw [←houts.out];exact g3,g4,g5,g6,g7⟩
 clear hat houts hw;replace hsay:=aab hsay;replace hS:=aab hS;replace hsec:=aab hsec;clear hvR hgood hR hK;go_wp2_with fail;go_loopw [163] (fun i wr=>∃ k:Nat,k≤inn.length∧i = .int .i64 k∧Below w14.heap.size w14 wr) (fun i _=>inn.length - (intOf i).toNat)
 case atStart=>exact ⟨0,aao _,rfl,aj _⟩
 case round =>
  obtain ⟨k,hk,rfl,hbt⟩:=hrel;by_cases hlt:k<inn.length
  case neg =>
   obtain rfl:k=inn.length:=(by omega);go_wp2_with fail;go_ret;exact ⟨rfl,ah hb hbt⟩
  obtain ⟨x,hx⟩:∃ x,Hid (inn[k]?=some x):=⟨_,aab (aac hlt)⟩
  obtain ⟨p,y,hp,hpn,hy,hyg,hxg,hsg,hread⟩:=hsay.out k x hx.out;obtain ⟨bi,oi,rfl,hbi',x0,x1,x2,x3,x4,x5⟩:=jS ((hI0.below (ah hb hbt)).more (ah hb hbt).size) hlt hx.out;have hpg:(ints t.way).toArray[k]?=some (.int .i64 (p:Int)):=by rw [aaG];exact ints_at hp
  replace hpg:=aab hpg;replace hp:=aab hp;replace hy:=aab hy;obtain ⟨u,hu⟩:∃ u,stripL o.secret x=u:=⟨_,rfl⟩
  obtain ⟨v,hv⟩:∃ v,stripL S u=v:=⟨_,rfl⟩
  obtain ⟨z,hz⟩:∃ z,stripL S y=z:=⟨_,rfl⟩
  obtain ⟨r,hr⟩:∃ r,kY v=r:=⟨_,rfl⟩
  have q1:Hid (∀ w,Calls prog 40 #[.int .i64 o.secret,.agg #[.int .i64 x.a0,.int .i64 x.b0,.int .i64 x.a1,.int .i64 x.b1,.int .i64 x.a2,.int .i64 x.b2]] w (Ret (.tuple #[.agg #[.int .i64 u.a0,.int .i64 u.b0,.int .i64 u.a1,.int .i64 u.b1,.int .i64 u.a2,.int .i64 u.b2],.int .i64 0]) w)):=aab (fun w=>by
   have h:=wF o.secret x w;rw [(qi hsec.out hxg).1,(qi hsec.out hxg).2,hu] at h;exact h)
  rw [hu] at hsg hread;rw [hv] at hread;rw [hz,hr] at hread;have hvg:v.good=true:=by rw [←hv];exact iY hsg
  have hzg:z.good=true:=by rw [←hz];exact iY hyg
  have q2:Hid (∀ w,Calls prog 40 #[.int .i64 S,.agg #[.int .i64 u.a0,.int .i64 u.b0,.int .i64 u.a1,.int .i64 u.b1,.int .i64 u.a2,.int .i64 u.b2]] w (Ret (.tuple #[.agg #[.int .i64 v.a0,.int .i64 v.b0,.int .i64 v.a1,.int .i64 v.b1,.int .i64 v.a2,.int .i64 v.b2],.int .i64 0]) w)):=aab (fun w=>by
   have h:=wF S u w;rw [(qi hS.out hsg).1,(qi hS.out hsg).2,hv] at h;exact h)
  have q3:Hid (∀ w,Calls prog 41 #[.agg #[.int .i64 v.a0,.int .i64 v.b0,.int .i64 v.a1,.int .i64 v.b1,.int .i64 v.a2,.int .i64 v.b2]] w (Ret (.tuple #[.agg #[.int .i64 r.x,.int .i64 r.y,.int .i64 r.z],.int .i64 0]) w)):=aab (fun w=>by
   have h:=EZ v w;rw [hr,Ue hvg] at h;exact h)
  have q4:Hid (∀ w,Calls prog 40 #[.int .i64 S,.agg #[.int .i64 y.a0,.int .i64 y.b0,.int .i64 y.a1,.int .i64 y.b1,.int .i64 y.a2,.int .i64 y.b2]] w (Ret (.tuple #[.agg #[.int .i64 z.a0,.int .i64 z.b0,.int .i64 z.a1,.int .i64 z.b1,.int .i64 z.a2,.int .i64 z.b2],.int .i64 0]) w)):=aab (fun w=>by
   have h:=wF S y w;rw [(qi hS.out hyg).1,(qi hS.out hyg).2,hz] at h;exact h)
  have q5:Hid (∀ w,Calls prog 41 #[.agg #[.int .i64 z.a0,.int .i64 z.b0,.int .i64 z.a1,.int .i64 z.b1,.int .i64 z.a2,.int .i64 z.b2]] w (Ret (.tuple #[.agg #[.int .i64 r.x,.int .i64 r.y,.int .i64 r.z],.int .i64 0]) w)):=aab (fun w=>by
   have h:=EZ z w;rw [hread,Ue hzg] at h;exact h)
  clear hu hv hz hr hread hvg hzg hyg hxg hsg hsay hS hsec;have i2:(0:Int)≤(k:Int):=by omega
  have i3:(k:Int)<(inn.length:Int):=by omega
  have i4:(0:Int)≤(p:Int):=by omega
  have i5:(p:Int)<(inn.length:Int):=by omega
  have BV:=Blk.new wr 63 #[.int .i64 x.a0,.int .i64 x.b0,.int .i64 x.a1,.int .i64 x.b1,.int .i64 x.a2,.int .i64 x.b2] _ rfl;have bV:=bAl (aj wr) (.cells #[.int .i64 x.a0,.int .i64 x.b0,.int .i64 x.a1,.int .i64 x.b1,.int .i64 x.a2,.int .i64 x.b2] 63);go_upto_region 20 with fail;clear x0 x1 x2 x3 x4 x5;replace hbt:=ah hbt bV;clear bV;generalize wr.alloc (.cells #[.int .i64 x.a0,.int .i64 x.b0,.int .i64 x.a1,.int .i64 x.b1,.int .i64 x.a2,.int .i64 x.b2] 63)=w20 at *;generalize wr.heap.size=vb at *;have p0:=((BP.below hbt BP.lt).cell k).trans hpg.out;go_upto_region 22 with fail;have c1:=(BO.below hbt BO.lt).cell 1;obtain ⟨g0,g1,g2,g3,g4,g5⟩:=BV.six;have qs:=q1.out w20;go_wp2_with fail;refine qs.mono ?_;rintro e w21 ⟨rfl,b21⟩;clear qs p0 c1 g0 g1 g2 g3 g4 g5 BV;replace hbt:=ah hbt b21;clear b21 w20;have BV:=Blk.new w21 63 #[.int .i64 u.a0,.int .i64 u.b0,.int .i64 u.a1,.int .i64 u.b1,.int .i64 u.a2,.int .i64 u.b2] _ rfl;have bV:=bAl (aj w21) (.cells #[.int .i64 u.a0,.int .i64 u.b0,.int .i64 u.a1,.int .i64 u.b1,.int .i64 u.a2,.int .i64 u.b2] 63);go_upto_region 23 with fail;replace hbt:=ah hbt bV;clear bV;generalize w21.alloc (.cells #[.int .i64 u.a0,.int .i64 u.b0,.int .i64 u.a1,.int .i64 u.b1,.int .i64 u.a2,.int .i64 u.b2] 63)=w22 at *;generalize w21.heap.size=vb2 at *;obtain ⟨g0,g1,g2,g3,g4,g5⟩:=BV.six;have qs:=q2.out w22;go_wp2_with fail;refine qs.mono ?_;rintro e w23 ⟨rfl,b23⟩;clear qs g0 g1 g2 g3 g4 g5 BV;replace hbt:=ah hbt b23;clear b23 w22;have BV:=Blk.new w23 63 #[.int .i64 v.a0,.int .i64 v.b0,.int .i64 v.a1,.int .i64 v.b1,.int .i64 v.a2,.int .i64 v.b2] _ rfl
  have bV:=bAl (aj w23) (.cells #[.int .i64 v.a0,.int .i64 v.b0,.int .i64 v.a1,.int .i64 v.b1,.int .i64 v.a2,.int .i64 v.b2] 63);go_upto_region 24 with fail;replace hbt:=ah hbt bV;clear bV;generalize w23.alloc (.cells #[.int .i64 v.a0,.int .i64 v.b0,.int .i64 v.a1,.int .i64 v.b1,.int .i64 v.a2,.int .i64 v.b2] 63)=w24 at *;generalize w23.heap.size=vb3 at *;obtain ⟨g0,g1,g2,g3,g4,g5⟩:=BV.six;have qs:=q3.out w24;go_wp2_with fail;refine qs.mono ?_;rintro e w25 ⟨rfl,b25⟩;clear qs g0 g1 g2 g3 g4 g5 BV;replace hbt:=ah hbt b25;clear b25 w24;have BR:=Blk.new w25 95 #[.int .i64 r.x,.int .i64 r.y,.int .i64 r.z] _ rfl;have bV:=bAl (aj w25) (.cells #[.int .i64 r.x,.int .i64 r.y,.int .i64 r.z] 95);go_upto_region 25 with fail;replace hbt:=ah hbt bV;clear bV;generalize w25.alloc (.cells #[.int .i64 r.x,.int .i64 r.y,.int .i64 r.z] 95)=w26 at *;generalize w25.heap.size=rb at *;have qs:=q4;obtain ⟨bo,oo,rfl,hbo,y0,y1,y2,y3,y4,y5⟩:=jS (hRo.below hbt) hpn hy.out;have KS:Hid (∀ w',Below w26.heap.size w26 w'→w'.cell? ⟨jb,4,none⟩=some (.slice (some ⟨bo,oo,none⟩) inn.length n2)∧w'.cell? ⟨pg,k,none⟩=some (.int .i64 (p:Int))∧w'.cell? ⟨bo,oo+p*6,none⟩=some (.int .i64 y.a0)∧w'.cell? ⟨bo,oo+p*6+1,none⟩=some (.int .i64 y.b0)∧w'.cell? ⟨bo,oo+p*6+2,none⟩=some (.int .i64 y.a1)∧w'.cell? ⟨bo,oo+p*6+3,none⟩=some (.int .i64 y.b1)∧w'.cell? ⟨bo,oo+p*6+4,none⟩=some (.int .i64 y.a2)∧w'.cell? ⟨bo,oo+p*6+5,none⟩=some (.int .i64 y.b2)):=aab (fun w' b'=>⟨((BJ.below (ah hbt b') BJ.lt).cell 4).trans hJ4.out,((BP.below (ah hbt b') BP.lt).cell k).trans hpg.out,(b'.cell (p:=⟨bo,oo+p*6,none⟩) (by have:=hbt.size;show bo<_;omega)).trans y0,(b'.cell (p:=⟨bo,oo+p*6+1,none⟩) (by have:=hbt.size;show bo<_;omega)).trans y1,(b'.cell (p:=⟨bo,oo+p*6+2,none⟩) (by have:=hbt.size;show bo<_;omega)).trans y2,(b'.cell (p:=⟨bo,oo+p*6+3,none⟩) (by have:=hbt.size;show bo<_;omega)).trans y3,(b'.cell (p:=⟨bo,oo+p*6+4,none⟩) (by have:=hbt.size;show bo<_;omega)).trans y4,(b'.cell (p:=⟨bo,oo+p*6+5,none⟩) (by have:=hbt.size;show bo<_;omega)).trans y5⟩)
  clear y0 y1 y2 y3 y4 y5;go_cut [33,34] from 200 to 213 (fun s33 s34 wc=>∃ lb,s33 = .pointer (some ⟨lb,0,none⟩)∧s34 = .int .i64 0∧Blk wc lb 63 #[.int .i64 z.a0,.int .i64 z.b0,.int .i64 z.a1,.int .i64 z.b1,.int .i64 z.a2,.int .i64 z.b2]∧Below w26.heap.size w26 wc)
  case first =>
   go_region_held3 (fun w'=>w'.cell? ⟨jb,4,none⟩=some (.slice (some ⟨bo,oo,none⟩) inn.length n2)∧w'.cell? ⟨pg,k,none⟩=some (.int .i64 (p:Int))∧w'.cell? ⟨bo,oo+p*6,none⟩=some (.int .i64 y.a0)∧w'.cell? ⟨bo,oo+p*6+1,none⟩=some (.int .i64 y.b0)∧w'.cell? ⟨bo,oo+p*6+2,none⟩=some (.int .i64 y.a1)∧w'.cell? ⟨bo,oo+p*6+3,none⟩=some (.int .i64 y.b1)∧w'.cell? ⟨bo,oo+p*6+4,none⟩=some (.int .i64 y.a2)∧w'.cell? ⟨bo,oo+p*6+5,none⟩=some (.int .i64 y.b2))
    (exact KS.out _ (by repeat (first | with_reducible exact B7 | with_reducible exact aj _ | with_reducible refine bAl ?_ _ | with_reducible refine bDr ?_ | with_reducible refine bF ?_ (by exact aad _) _)))
    (first
    | (go_simp;go_at_call 40;(with_reducible refine (qs.out _).mono ?_);rintro e w7 ⟨rfl,b7⟩;have B7:Below w26.heap.size w26 w7:=ah (by repeat (first | exact aj _ | refine bAl ?_ _ | refine bDr ?_)) b7;(try (have BZ:Blk w7 w26.heap.size 63 #[.int .i64 0,.int .i64 0,.int .i64 0,.int .i64 0,.int .i64 0,.int .i64 0]:=Blk.below (by first | exact Blk.new _ _ _ _ rfl | exact Blk.dr (Blk.new _ _ _ _ rfl)) b7 (by simp);obtain ⟨m0,m1,m2',m3,m4,m5⟩:=BZ.six;obtain ⟨z0,z1,z2,z3,z4,z5⟩:=BZ.six_free))))
   all_goals
    go_wp2_with fail;go_meet
    first
     | (with_reducible refine ⟨_,rfl,rfl,Blk.new _ _ _ _ rfl,bAl B7 _⟩;done)
     | exact ⟨_,rfl,rfl,BZ.set6 (.int .i64 z.a0) (.int .i64 z.b0) (.int .i64 z.a1) (.int .i64 z.b1) (.int .i64 z.a2) (.int .i64 z.b2),mG B7 (aad _) (.int .i64 z.a0) (.int .i64 z.b0) (.int .i64 z.a1) (.int .i64 z.b1) (.int .i64 z.a2) (.int .i64 z.b2)⟩
  case rest =>
   obtain ⟨lb,rfl,rfl,BV,bV⟩:=hcut;clear KS qs;replace BR:=BR.below bV BR.lt;replace hbt:=ah hbt bV;clear bV;obtain ⟨g0,g1,g2,g3,g4,g5⟩:=BV.six;have qs:=q5.out wc;go_upto_region 26 with fail;go_wp2_with fail;refine qs.mono ?_;rintro e w28 ⟨rfl,b28⟩;clear qs g0 g1 g2 g3 g4 g5 BV;replace BR:=BR.below b28 BR.lt;replace hbt:=ah hbt b28;clear b28;have BQ:=Blk.new w28 95 #[.int .i64 r.x,.int .i64 r.y,.int .i64 r.z] _ rfl;have bV:=bAl (aj w28) (.cells #[.int .i64 r.x,.int .i64 r.y,.int .i64 r.z] 95);go_upto_region 27 with fail;replace BR:=BR.below bV BR.lt;replace hbt:=ah hbt bV;clear bV;generalize w28.alloc (.cells #[.int .i64 r.x,.int .i64 r.y,.int .i64 r.z] 95)=w29 at *;generalize w28.heap.size=qb at *;have r0:=BR.cell 0;have r1:=BR.cell 1;have r2:=BR.cell 2;have t0:=BQ.cell 0;have t1:=BQ.cell 1;have t2:=BQ.cell 2
   have hne:(Op.equalIn 10000 95 (.agg #[.int .i64 r.x,.int .i64 r.y,.int .i64 r.z]) (.agg #[.int .i64 r.x,.int .i64 r.y,.int .i64 r.z])).run prog w29 = .ok true w29:=by
    rw [NY]
    simp
   go_wp2_with fail;exact ⟨⟨k+1,by omega,by go_num,hbt⟩,by simp [intOf];omega⟩
end Go.Proofs.YthbibbkbaphpkaaGreatDoor

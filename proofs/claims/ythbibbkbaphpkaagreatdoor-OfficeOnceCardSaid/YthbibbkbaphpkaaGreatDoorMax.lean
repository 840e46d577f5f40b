/- office.Work; walked. -/
import Derived.Test.YthbibbkbaphpkaaGreatDoorMaw
set_option maxHeartbeats 16000000
set_option maxRecDepth 1000000
namespace Go.Proofs.YthbibbkbaphpkaaGreatDoor
open _root_.Go.Proofs.Tryz
section
open Go Go.RowKit
attribute [local go_sem] Oper.semAt_some
theorem TE:∀ v∈(#[.slice none 0 0,.slice none 0 0,.slice none 0 0,.slice none 0 0,.slice none 0 0]:Array Value).toList,v.oneCell'=true:=by decide
theorem Vr (a0 a1 a2 a3 a4:Option Addr) (n0 n1 n2 n3 n4 c0 c1 c2 c3 c4:Nat):∀ v∈(#[.slice a0 n0 c0,.slice a1 n1 c1,.slice a2 n2 c2,.slice a3 n3 c3,.slice a4 n4 c4]:Array Value).toList,v.oneCell'=true:=by
 intro v hv;simp only [aaq,aaw,or_false] at hv;rcases hv with rfl | rfl | rfl | rfl | rfl <;> rfl
theorem EI {key:Int} {l:List Ltr} {t:Trn} (h:kw key l t=0):aA key=true∧l.length≤64∧l.all Ltr.good=true∧t.fit (l.length:Int)=true:=by
 unfold kw at h
 split at h
 ·rename_i h1
  split at h
  ·cases h
  ·rename_i h2
   split at h
   ·rename_i h3
    split at h
    ·rename_i h4;exact ⟨h1,by omega,h3,h4⟩
    ·cases h
   ·cases h
 ·cases h
theorem Ai (o:Ofc) (A Au A2:Option Addr) (c cu c2:Nat) (vs:List Value) (rest:Int) (h:Hd) (inn:List Ltr) (s:TS) (t:Trn) (W:World)
  (hA:LksAt W W.heap.size A o.chain vs) (hn:o.chain.length≤1000000) (hcap:o.chain.length≤c) (hnilA:A=none→c=0)
  (hU:Rd W W.heap.size 32 Au o.used.length (o.used.flatMap ag)) (hok:∀ x∈o.used,dL x) (hnu:o.used.length≤100000) (hnilU:Au=none→o.used.length=0∧cu=0)
  (ho:h.ok) (hI:Rd W W.heap.size 6 A2 inn.length (inn.flatMap Ltr.cl)) (hin:inn.length≤100000) (hio:∀ x∈inn,x.ok) (hT:TurnAt W W.heap.size s t) (hG:ShaG W) :
  Calls prog 13 #[.agg #[.int .i64 o.no,.int .i64 o.secret,.slice A o.chain.length c,.slice Au o.used.length cu],.int .i64 rest,.agg h.cl.toArray,.slice A2 inn.length c2,.agg (s.cl t)] W (RetWork o rest h inn t W):=by
 have hmf:∀ (fn:Fn) (first cap:Array Value) (w:World),(Instr.makeFunc fn first cap).run prog w = .ok (.func fn first cap) w:=fun _ _ _ _=>rfl;have hcl:Hid (h.cl.toArray.size=42):=aab (by simpa using Hd.cl_length ho);have hTz:Hid (s.cl t=#[.slice s.a0 t.left.length s.c0,.slice s.a1 t.right.length s.c1,.slice s.a2 t.rl.length s.c2,.slice s.a3 t.rr.length s.c3,.slice s.a4 t.salts.length s.c4]):=aab rfl;refine FQ func13 rfl ?_;simp only [ntmps13,aae,aas,List.length_nil,Nat.reduceAdd,Nat.reduceSub,aaV,aaW,aaX,aaY,aaJ,aaN];rw [hTz.out];obtain ⟨H,hH⟩:∃ H,h.cl.toArray=H:=⟨_,rfl⟩
 rw [hH] at hcl ⊢;refine jd (eP ?_);go_wp2_with fail;change wpF _ _ _ _ _ ((((((W.alloc (.cells #[.int .i64 o.no,.int .i64 o.secret,.slice A o.chain.length c,.slice Au o.used.length cu] 25)).alloc (.cells H 33)).alloc (.cells #[.slice s.a0 t.left.length s.c0,.slice s.a1 t.right.length s.c1,.slice s.a2 t.rl.length s.c2,.slice s.a3 t.rr.length s.c3,.slice s.a4 t.salts.length s.c4] 39)).alloc (.cells bK 25)).alloc (.cells bC.toArray 49)).alloc (.cells #[.int .i64 0] 42));obtain ⟨w1,hw1⟩:∃ w1,w1=(W.alloc (.cells #[.int .i64 o.no,.int .i64 o.secret,.slice A o.chain.length c,.slice Au o.used.length cu] 25)).alloc (.cells H 33):=⟨_,rfl⟩
 have hs1:w1.heap.size=W.heap.size+1+1:=by rw [hw1];simp
 have b1:Below W.heap.size W w1:=by rw [hw1];exact bAl (bAl (aj W) _) _
 have BO1:Blk w1 W.heap.size 25 #[.int .i64 o.no,.int .i64 o.secret,.slice A o.chain.length c,.slice Au o.used.length cu]:=by rw [hw1];exact (Blk.new W _ _ _ rfl).alloc _
 have BH1:Blk w1 (W.heap.size+1) 33 H:=by rw [hw1];exact Blk.new _ _ _ _ (by simp)
 rw [←hw1];clear hw1;obtain ⟨w,hw⟩:∃ w,w=(((w1.alloc (.cells #[.slice s.a0 t.left.length s.c0,.slice s.a1 t.right.length s.c1,.slice s.a2 t.rl.length s.c2,.slice s.a3 t.rr.length s.c3,.slice s.a4 t.salts.length s.c4] 39)).alloc (.cells bK 25)).alloc (.cells bC.toArray 49)).alloc (.cells #[.int .i64 0] 42):=⟨_,rfl⟩
 have hb:Below W.heap.size W w:=by rw [hw];exact ah b1 (bAl (bAl (bAl (bAl (aj w1) _) _) _) _)
 have BO:Blk w W.heap.size 25 #[.int .i64 o.no,.int .i64 o.secret,.slice A o.chain.length c,.slice Au o.used.length cu]:=by rw [hw];exact (((BO1.alloc _).alloc _).alloc _).alloc _
 have BH:Blk w (W.heap.size+1) 33 H:=by rw [hw];exact (((BH1.alloc _).alloc _).alloc _).alloc _
 have BT:Blk w (W.heap.size+1+1) 39 #[.slice s.a0 t.left.length s.c0,.slice s.a1 t.right.length s.c1,.slice s.a2 t.rl.length s.c2,.slice s.a3 t.rr.length s.c3,.slice s.a4 t.salts.length s.c4]:=by rw [hw];exact (((Blk.new _ _ _ _ hs1.symm).alloc _).alloc _).alloc _
 have BX:Blk w (W.heap.size+1+1+1) 25 bK:=by rw [hw];exact ((Blk.new _ _ _ _ (by simp [hs1])).alloc _).alloc _
 have BJ:Blk w (W.heap.size+1+1+1+1) 49 bC.toArray:=by rw [hw];exact (Blk.new _ _ _ _ (by simp [hs1])).alloc _
 have BE:Blk w (W.heap.size+1+1+1+1+1) 42 #[.int .i64 0]:=by rw [hw];exact Blk.new _ _ _ _ (by simp [hs1])
 rw [←hw];clear hw b1 BO1 BH1 hs1 w1
 have hpan:∀ (e old:Int) (w2:World) (tmps X J:Array Value),dh o rest h inn t=e→e≠0→Below W.heap.size W w2→Blk w2 (W.heap.size+1+1+1) 25 X→X.size=4→Blk w2 (W.heap.size+1+1+1+1) 49 J→J.size=49→Blk w2 (W.heap.size+1+1+1+1+1) 42 #[.int .i64 old] →
   tmps.getD 10 undef = .pointer (some ⟨W.heap.size+1+1+1,0,none⟩)→tmps.getD 11 undef = .pointer (some ⟨W.heap.size+1+1+1+1,0,none⟩)→tmps.getD 12 undef = .pointer (some ⟨W.heap.size+1+1+1+1+1,0,none⟩) →
   gV prog Tryz.f13 tmps (RetWork o rest h inn t W) (NU (W.heap.size+1+1+1) (W.heap.size+1+1+1+1) (W.heap.size+1+1+1+1+1)) (.panicking [{ v := .iface 42 (.int .i64 e),recovered:=false }]) w2:=by
  intro e old w2 tmps X J he he0 b2 B1 h1 B2 h2 B3 h3 h4 h5;refine Lm h3 h4 h5 h1 h2 he0 B1 B2 B3 ⟨below_setRow (below_setRow (zQ7 b2 (by show W.heap.size≤W.heap.size+1+1+1+1+1;omega) _) (by omega) _) (by omega) _,fun _=>by rw [he],fun h0=>absurd (he▸h0) he0⟩
 replace hpan:=aab hpan;have hwe:Hid (dh o rest h inn t=if o.good=true∧(h.from_=o.no∧h.open_.formed=true) then (if jv inn=0 then (if kw rest (bu o.secret inn) t=0 then (match mM o inn with | none=>491 | some u=>if u.length≤4096 then (if o.chain.length<1024 then 0 else 2) else 2) else kw rest (bu o.secret inn) t) else jv inn) else 490):=aab rfl;generalize hWE:dh o rest h inn t=WE at hpan hwe;have q1:=sO o A Au c cu vs w ((hA.below hb).more hb.size) hn hcap ((hU.below hb).more hb.size) hok (by omega) (hG.below hb);obtain ⟨E1,hE1⟩:∃ E1,Hid (o.err=E1):=⟨_,aab rfl⟩
 rw [hE1.out] at q1;have d0:=BO.cell 0;have d1:=BO.cell 1;have d2:=BO.cell 2;have d3:=BO.cell 3;refine jd (eP ?_);go_wp2_with fail;refine jd (eP ?_);go_wp2_with fail;refine jd (eP ?_);go_wp2_with fail;refine q1.mono ?_;rintro e w2 ⟨rfl,b2⟩;clear q1 d0 d1 d2 d3;go_wp2_with fail;refine (qf _ _).mono ?_;rintro r w3 ⟨rfl,⟨h0,rfl⟩ | ⟨h0,rfl⟩⟩;rotate_left 1
 ·have hbad:WE=E1:=by
   rw [hwe.out,if_neg]
   ·rw [←hE1.out];unfold Ofc.err;rw [if_neg (fun hg=>h0 (by rw [←hE1.out];unfold Ofc.err;rw [if_pos hg]))]
   ·intro hg
    exact h0 (by rw [←hE1.out];unfold Ofc.err;rw [if_pos hg.1])
  go_wp2_with fail;exact hpan.out E1 0 _ _ _ _ hbad h0 (ah hb b2) (BX.below b2 BX.lt) rfl (BJ.below b2 BJ.lt) dW (BE.below b2 BE.lt) rfl rfl rfl
 subst h0
 have hgood:o.good=true:=by
  have:=hE1.out
  unfold Ofc.err at this
  split at this
  ·assumption
  ·cases this
 have hsec:iO o.secret=true:=by
  unfold Ofc.good at hgood;simp only [aal] at hgood;exact hgood.1.2
 replace hb:=ah hb b2;replace BO:=BO.below b2 BO.lt;replace BH:=BH.below b2 BH.lt;replace BT:=BT.below b2 BT.lt;replace BX:=BX.below b2 BX.lt;replace BJ:=BJ.below b2 BJ.lt;replace BE:=BE.below b2 BE.lt;clear b2 hE1;go_wp2_with fail;have c6:w2.cell? ⟨W.heap.size+1,6,none⟩=some (.int .i64 h.many):=(BH.cell 6).trans (by rw [←hH,aaG];exact (Hd.cells ho).2.2.2.2.2.2.1);have z6:=BH.frozen 6;have BH3:=BH.set_ 6 (.int .i64 0);have hH3:H.setIfInBounds 6 (.int .i64 0)=({ h with many:=0 } : Hd).cl.toArray:=by rw [←hH];exact NQ h 0
 rw [hH3] at BH3;have hok3:({ h with many:=0 } : Hd).ok:=Hd.ok_many ho (by unfold inI;omega);have hl3:({ h with many:=0 } : Hd).cl.toArray.size=42:=by simpa using Hd.cl_length hok3
 have hZl:(ag fB).toArray.size=32:=rfl;have hR4:=NR hok3 (d:=fB) rfl;have hopen:({ ({ h with many:=0 } : Hd) with root:=fB } : Hd)=h.open_:=rfl;rw [hopen] at hR4;have hok4:h.open_.ok:=Hd.ok_root hok3 sU;refine jd (eP ?_);apply wp_region_lit
 iterate 12 go_step
 refine aG (by rfl) (by rfl) (by rfl) (by rfl) (pX (X:=(ag fB).toArray) BH3 (by rw [hZl];exact aW) (by rw [hl3,hZl];omega) (by intro v hv;exact aZ v (by simpa using hv))) ?_;simp only [Act.put];rw [show ((({ h with many:=0 } : Hd).cl.toArray.toList.take 7++(ag fB).toArray.toList++({ h with many:=0 } : Hd).cl.toArray.toList.drop (7+(ag fB).toArray.size)).toArray)=h.open_.cl.toArray from congrArg List.toArray hR4];obtain ⟨w4,hw4⟩:∃ w4,w4=(w2.setCell ⟨W.heap.size+1,6,none⟩ (.int .i64 0)).setRow (W.heap.size+1) h.open_.cl.toArray:=⟨_,rfl⟩
 have keep4:∀ {g:Nat} {T:TypeId} {cs:Array Value},Blk w2 g T cs→g≠W.heap.size+1→Blk w4 g T cs:=fun B hne=>by rw [hw4];exact (B.far (p:=⟨W.heap.size+1,6,none⟩) hne _).farRow hne _
 replace BO:=keep4 BO (by omega);replace BT:=keep4 BT (by omega);replace BX:=keep4 BX (by omega);replace BJ:=keep4 BJ (by omega);replace BE:=keep4 BE (by omega);replace BH:Blk w4 (W.heap.size+1) 33 h.open_.cl.toArray:=by rw [hw4];exact BH3.row _
 replace hb:Below W.heap.size W w4:=by rw [hw4];exact below_setRow (zQ7 hb (by show W.heap.size≤W.heap.size+1;omega) _) (by omega) _
 rw [←hw4];clear hw4 keep4 BH3 hH3 hR4 hopen hl3 hZl hok3 c6 z6 w2 w;go_wp2_with fail;obtain ⟨ask,hask⟩:∃ a:Ask,a=⟨53,#[.pointer (some ⟨W.heap.size,0,none⟩),.pointer (some ⟨W.heap.size+1,0,none⟩)],decide (h.open_.from_=o.no)&&h.open_.formed,490⟩:=⟨_,rfl⟩
 have q2:Calls prog 52 #[.slice (some ⟨w4.heap.size,0,none⟩) 1 1] (w4.alloc (.cells #[.func (.func 53) #[] #[.pointer (some ⟨W.heap.size,0,none⟩),.pointer (some ⟨W.heap.size+1,0,none⟩)],.int .i64 490] 110)) (ui [ask] (w4.alloc (.cells #[.func (.func 53) #[] #[.pointer (some ⟨W.heap.size,0,none⟩),.pointer (some ⟨W.heap.size+1,0,none⟩)],.int .i64 490] 110))):=by
  have b5:=bAl (aj w4) (.cells #[.func (.func 53) #[] #[.pointer (some ⟨W.heap.size,0,none⟩),.pointer (some ⟨W.heap.size+1,0,none⟩)],.int .i64 490] 110);have BO5:=BO.alloc (.cells #[.func (.func 53) #[] #[.pointer (some ⟨W.heap.size,0,none⟩),.pointer (some ⟨W.heap.size+1,0,none⟩)],.int .i64 490] 110);have BH5:=BH.alloc (.cells #[.func (.func 53) #[] #[.pointer (some ⟨W.heap.size,0,none⟩),.pointer (some ⟨W.heap.size+1,0,none⟩)],.int .i64 490] 110);refine wW (some ⟨w4.heap.size,0,none⟩) 1 [ask] _ ?_ (by simp) (fun k a ha _ w' h'=>?_) (fun a ha args w=>?_)
  ·rw [hask]
   exact Rd.new w4 [.func (.func 53) #[] #[.pointer (some ⟨W.heap.size,0,none⟩),.pointer (some ⟨W.heap.size+1,0,none⟩)],.int .i64 490] _ 2 1 _ rfl rfl
  ·match k,ha with
   | 0,ha =>
    injection ha with ha;subst ha;rw [hask]
    exact Va W.heap.size (W.heap.size+1) o.no o.secret _ _ hsec h.open_ hok4 w' (BO5.below h' BO5.lt) (BH5.below h' BH5.lt) (hG.below (ah (ah hb b5) h'))
   | k+1,ha=>simp at ha
  ·obtain rfl:a=ask:=by simpa using ha
   rw [hask];exact enters_of func53 (by kernel_rfl) rfl args w
 refine jd (eP ?_);go_wp2_with fail;refine q2.mono ?_;rintro r w5 ⟨b5,hr⟩;clear q2;replace b5:=ah (bAl (aj w4) _) b5;replace hb:=ah hb b5;replace BO:=BO.below b5 BO.lt;replace BH:=BH.below b5 BH.lt;replace BT:=BT.below b5 BT.lt;replace BX:=BX.below b5 BX.lt;replace BJ:=BJ.below b5 BJ.lt;replace BE:=BE.below b5 BE.lt;clear b5;rcases hr with ⟨h0,rfl⟩ | ⟨h0,rfl⟩
 rotate_left 1
 ·have hf:ask.ok=false:=by
   obtain ⟨x,hx,hxf⟩:=h0;obtain rfl:x=ask:=(by simpa using hx);exact hxf
  have hE:mX [ask]=490:=by unfold mX;rw [if_neg (by rw [hf];simp),hask]
  have hbad:WE=490:=by
   rw [hwe.out,if_neg];rintro ⟨_,h1,h2⟩;rw [hask] at hf;have h1':h.open_.from_=o.no:=h1;rw [show (decide (h.open_.from_=o.no)&&h.open_.formed)=true by rw [h2,decide_eq_true h1'];rfl] at hf;cases hf
  rw [hE];clear hf hE h0;go_wp2_with fail;exact hpan.out 490 0 _ _ _ _ hbad (by omega) hb BX rfl BJ dW BE rfl rfl rfl
 have hgo:h.from_=o.no∧h.open_.formed=true:=by
  have:=h0 ask (by simp)
  rw [hask] at this;simp only [aal,decide_eq_true_eq] at this;exact this
 replace hwe:Hid (WE=(if jv inn=0 then (if kw rest (bu o.secret inn) t=0 then (match mM o inn with | none=>491 | some u=>if u.length≤4096 then (if o.chain.length<1024 then 0 else 2) else 2) else kw rest (bu o.secret inn) t) else jv inn)):=by
  show _=_;rw [hwe.out,if_pos ⟨hgood,hgo⟩]
 clear h0 hask ask;go_wp2_with fail;have q3:=J3 o.secret A2 inn.length c2 inn w5 ((hI.below hb).more hb.size) (by omega) (hG.below hb);have hbe:y8 o.secret inn=jv inn:=if_pos hsec;unfold MR at q3;rw [hbe] at q3;clear hbe;have hz5:=BE.lt;have d1:=BO.cell 1;refine jd (eP ?_);go_wp2_with fail;refine q3.mono ?_;rintro r w6 ⟨b6,hr1,hr2⟩;clear q3 d1;replace hb:=ah hb b6;replace BO:=BO.below b6 BO.lt;replace BH:=BH.below b6 BH.lt;replace BT:=BT.below b6 BT.lt;replace BX:=BX.below b6 BX.lt;replace BJ:=BJ.below b6 BJ.lt;replace BE:=BE.below b6 BE.lt;have j0:w6.cell? ⟨W.heap.size+1+1+1+1,0,none⟩=some (.slice none 0 0):=BJ.cell 0;have j1:w6.cell? ⟨W.heap.size+1+1+1+1,1,none⟩=some (.slice none 0 0):=BJ.cell 1;have z0:=BJ.frozen 0;have z1:=BJ.frozen 1;have e0:w6.cell? ⟨W.heap.size+1+1+1+1+1,0,none⟩=some (.int .i64 0):=BE.cell 0;have ze:=BE.frozen 0;have ne1:W.heap.size+1+1+1+1≠W.heap.size+1+1+1+1+1:=by omega
 have keep7:∀ (v0 v1 v2:Value) {g:Nat} {T:TypeId} {cs:Array Value},Blk w6 g T cs→g≠W.heap.size+1+1+1+1→g≠W.heap.size+1+1+1+1+1 →
   Blk (((w6.setCell ⟨W.heap.size+1+1+1+1,0,none⟩ v0).setCell ⟨W.heap.size+1+1+1+1,1,none⟩ v1).setCell ⟨W.heap.size+1+1+1+1+1,0,none⟩ v2) g T cs:=fun v0 v1 v2 _ _ _ B h1 h2 =>
  ((B.far (p:=⟨W.heap.size+1+1+1+1,0,none⟩) h1 _).far (p:=⟨W.heap.size+1+1+1+1,1,none⟩) h1 _).far (p:=⟨W.heap.size+1+1+1+1+1,0,none⟩) h2 _
 have hb7:∀ v0 v1 v2:Value,Below W.heap.size W (((w6.setCell ⟨W.heap.size+1+1+1+1,0,none⟩ v0).setCell ⟨W.heap.size+1+1+1+1,1,none⟩ v1).setCell ⟨W.heap.size+1+1+1+1+1,0,none⟩ v2):=fun v0 v1 v2 =>
  zQ7 (zQ7 (zQ7 hb (by show W.heap.size≤W.heap.size+1+1+1+1;omega) _) (by show W.heap.size≤W.heap.size+1+1+1+1;omega) _) (by show W.heap.size≤W.heap.size+1+1+1+1+1;omega) _
 have BJ7:∀ v0 v1 v2:Value,Blk (((w6.setCell ⟨W.heap.size+1+1+1+1,0,none⟩ v0).setCell ⟨W.heap.size+1+1+1+1,1,none⟩ v1).setCell ⟨W.heap.size+1+1+1+1+1,0,none⟩ v2) (W.heap.size+1+1+1+1) 49 (oV v0 v1 gK gK gK gK gK dM.cl).toArray:=fun v0 v1 v2 =>
  ((BJ.set_ 0 v0).set_ 1 v1).far (p:=⟨W.heap.size+1+1+1+1+1,0,none⟩) ne1 _
 have BE7:∀ v0 v1:Value,∀ e:Int,Blk (((w6.setCell ⟨W.heap.size+1+1+1+1,0,none⟩ v0).setCell ⟨W.heap.size+1+1+1+1,1,none⟩ v1).setCell ⟨W.heap.size+1+1+1+1+1,0,none⟩ (.int .i64 e)) (W.heap.size+1+1+1+1+1) 42 #[.int .i64 e]:=fun v0 v1 e =>
  ((BE.far (p:=⟨W.heap.size+1+1+1+1,0,none⟩) ne1.symm _).far (p:=⟨W.heap.size+1+1+1+1,1,none⟩) ne1.symm _).set_ 0 _
 replace keep7:=aab keep7;replace hb7:=aab hb7;replace BJ7:=aab BJ7;replace BE7:=aab BE7
 have hJl:Hid (∀ v0 v1:Value,(oV v0 v1 gK gK gK gK gK dM.cl).toArray.size=49):=aab (fun v0 v1=>by
  rw [aae];show dM.cl.length+7=49;rw [nG])
 by_cases hc:jv inn=0
 rotate_left 1
 ·have hbad:WE=jv inn:=by rw [hwe.out,if_neg hc]
  have hr3:=hr1 hc;subst hr3;clear hr1 hr2;generalize jv inn=E2 at *;go_wp2_with fail;have BX7:=keep7.out gK gK (.int .i64 E2) BX (by omega) (by omega);have b7:=hb7.out gK gK (.int .i64 E2);have B7:=BJ7.out gK gK (.int .i64 E2);have BE8:=BE7.out gK gK E2;unfold gK at BX7 b7 B7 BE8;have hJz:=hJl.out gK gK;unfold gK at hJz;clear BJ BE BX keep7 hb7 BJ7 BE7 hJl j0 j1 z0 z1 e0 ze BO BH BT hb b6;generalize ((w6.setCell _ _).setCell _ _).setCell _ _=w7 at *;have e1:=BE8.cell 0;refine jd (eP ?_);go_wp2_with fail;refine (qf _ _).mono ?_;rintro r w8 ⟨rfl,⟨h0,rfl⟩ | ⟨h0,rfl⟩⟩
  ·exact absurd h0 hc
  ·go_wp2_with fail
   exact hpan.out E2 E2 _ _ _ _ hbad hc b7 BX7 rfl B7 hJz BE8 rfl rfl rfl
 replace hwe:Hid (WE=(if kw rest (bu o.secret inn) t=0 then (match mM o inn with | none=>491 | some u=>if u.length≤4096 then (if o.chain.length<1024 then 0 else 2) else 2) else kw rest (bu o.secret inn) t)):=by
  show _=_;rw [hwe.out,if_pos hc]
 obtain ⟨g1,g2,hr3,hg1,hg2,G1,G2⟩:=hr2 hc;subst hr3;clear hr1 hr2;obtain ⟨L,hL⟩:∃ L,bu o.secret inn=L:=⟨_,rfl⟩
 obtain ⟨Pf,hPf⟩:∃ L,nV o.secret inn=L:=⟨_,rfl⟩
 have hLl:L.length=inn.length:=by rw [←hL];exact dJ _ _
 have hPl:Pf.length=inn.length:=by rw [←hPf];simp [nV]
 rw [hL] at G1 hwe;rw [hPf] at G2;replace hL:=aab hL;replace hPf:=aab hPf;go_wp2_with fail;have BX7:=keep7.out (.slice (some ⟨g1,0,none⟩) inn.length inn.length) (.slice (some ⟨g2,0,none⟩) inn.length inn.length) (.int .i64 0) BX (by omega) (by omega);have BO7:=keep7.out (.slice (some ⟨g1,0,none⟩) inn.length inn.length) (.slice (some ⟨g2,0,none⟩) inn.length inn.length) (.int .i64 0) BO (by omega) (by omega);have BH7:=keep7.out (.slice (some ⟨g1,0,none⟩) inn.length inn.length) (.slice (some ⟨g2,0,none⟩) inn.length inn.length) (.int .i64 0) BH (by omega) (by omega);have BT7:=keep7.out (.slice (some ⟨g1,0,none⟩) inn.length inn.length) (.slice (some ⟨g2,0,none⟩) inn.length inn.length) (.int .i64 0) BT (by omega) (by omega);have G17:=keep7.out (.slice (some ⟨g1,0,none⟩) inn.length inn.length) (.slice (some ⟨g2,0,none⟩) inn.length inn.length) (.int .i64 0) G1 (by omega) (by omega);have G27:=keep7.out (.slice (some ⟨g1,0,none⟩) inn.length inn.length) (.slice (some ⟨g2,0,none⟩) inn.length inn.length) (.int .i64 0) G2 (by omega) (by omega);have b7:=hb7.out (.slice (some ⟨g1,0,none⟩) inn.length inn.length) (.slice (some ⟨g2,0,none⟩) inn.length inn.length) (.int .i64 0);have B7:=BJ7.out (.slice (some ⟨g1,0,none⟩) inn.length inn.length) (.slice (some ⟨g2,0,none⟩) inn.length inn.length) (.int .i64 0);have BE8:=BE7.out (.slice (some ⟨g1,0,none⟩) inn.length inn.length) (.slice (some ⟨g2,0,none⟩) inn.length inn.length) 0;clear BJ BE BX keep7 hb7 BJ7 BE7 j0 j1 z0 z1 e0 ze BO BH BT hb b6 hJl G1 G2
 generalize ((w6.setCell _ _).setCell _ _).setCell _ _=w7 at *;have hn16:W.heap.size+1+1+1+1+1+1≤g1:=by omega
 have hn26:W.heap.size+1+1+1+1+1+1≤g2:=by omega
 clear hg1 hg2 hz5 w6;have e1:=BE8.cell 0;refine jd (eP ?_);go_wp2_with fail;refine (qf _ _).mono ?_;rintro r w8 ⟨rfl,⟨h0,rfl⟩ | ⟨h0,rfl⟩⟩;rotate_left 1
 ·exact absurd rfl h0
 clear h0 e1;go_wp2_with fail;have hRL:Rd w7 w7.heap.size 6 (some ⟨g1,0,none⟩) L.length (L.flatMap Ltr.cl):=⟨xB L,fun _=>⟨g1,0,rfl,G17.lt,fun j u hu=>by rw [aax,G17.cell,aaG];exact hu⟩⟩
 have q4:=Vk rest (some ⟨g1,0,none⟩) inn.length L s t w7 hRL ((hT.below b7).more b7.size) (by omega) (hG.below b7);rw [hLl,hTz.out] at q4;unfold Tj at q4;have j0:w7.cell? ⟨W.heap.size+1+1+1+1,0,none⟩=some (.slice (some ⟨g1,0,none⟩) inn.length inn.length):=B7.cell 0;have t0:=BT7.cell 0;have t1:=BT7.cell 1;have t2:=BT7.cell 2;have t3:=BT7.cell 3;have t4:=BT7.cell 4;refine jd (eP ?_);go_wp2_with fail;refine q4.mono ?_;rintro r w8 ⟨b8,hr1,hr2⟩;clear q4 j0 t0 t1 t2 t3 t4;replace b7:=ah b7 b8;replace BO7:=BO7.below b8 BO7.lt;replace BH7:=BH7.below b8 BH7.lt;replace BT7:=BT7.below b8 BT7.lt;replace BX7:=BX7.below b8 BX7.lt;replace B7:=B7.below b8 B7.lt;replace BE8:=BE8.below b8 BE8.lt;replace G17:=G17.below b8 G17.lt;replace G27:=G27.below b8 G27.lt;clear b8 hRL;have e0:w8.cell? ⟨W.heap.size+1+1+1+1+1,0,none⟩=some (.int .i64 0):=BE8.cell 0;have ze:=BE8.frozen 0
 have hJl:∀ a0 a1 a2 a3 a4:Value,(oV (.slice (some ⟨g1,0,none⟩) inn.length inn.length) (.slice (some ⟨g2,0,none⟩) inn.length inn.length) a0 a1 a2 a3 a4 dM.cl).toArray.size=49:=fun _ _ _ _ _=>by
  rw [aae];show dM.cl.length+7=49;rw [nG]
 by_cases hm:kw rest L t=0
 rotate_left 1
 ·have hbad:WE=kw rest L t:=by rw [hwe.out,if_neg hm]
  have hr3:=hr1 hm;subst hr3;clear hr1 hr2;generalize kw rest L t=E2 at *;dsimp only
  iterate 13 go_step
  refine aG (by rfl) (by rfl) (by rfl) (by rfl) (pX (X:=#[.slice none 0 0,.slice none 0 0,.slice none 0 0,.slice none 0 0,.slice none 0 0]) B7 eQ (by rw [hJl];decide) TE) ?_;simp only [Act.put];rw [NS];have B9:=B7.row (oV (.slice (some ⟨g1,0,none⟩) inn.length inn.length) (.slice (some ⟨g2,0,none⟩) inn.length inn.length) (.slice none 0 0) (.slice none 0 0) (.slice none 0 0) (.slice none 0 0) (.slice none 0 0) dM.cl).toArray;have hJz:=hJl (.slice none 0 0) (.slice none 0 0) (.slice none 0 0) (.slice none 0 0) (.slice none 0 0);generalize (oV (.slice (some ⟨g1,0,none⟩) inn.length inn.length) (.slice (some ⟨g2,0,none⟩) inn.length inn.length) (.slice none 0 0) (.slice none 0 0) (.slice none 0 0) (.slice none 0 0) (.slice none 0 0) dM.cl).toArray=JJ at *;have BX9:=BX7.farRow (g':=W.heap.size+1+1+1+1) (by omega) JJ;have BE9:=BE8.farRow (g':=W.heap.size+1+1+1+1) (by omega) JJ;have b9:=below_setRow b7 (show W.heap.size≤W.heap.size+1+1+1+1 by omega) JJ;clear B7 BX7 BE8 b7 e0 ze BO7 BH7 BT7 G17 G27 hJl;generalize w8.setRow (W.heap.size+1+1+1+1) JJ=w9 at *;have e0:w9.cell? ⟨W.heap.size+1+1+1+1+1,0,none⟩=some (.int .i64 0):=BE9.cell 0;have ze:=BE9.frozen 0;go_wp2_with fail;have BX10:=BX9.far (p:=⟨W.heap.size+1+1+1+1+1,0,none⟩) (show W.heap.size+1+1+1≠W.heap.size+1+1+1+1+1 by omega) (.int .i64 E2);have B10:=B9.far (p:=⟨W.heap.size+1+1+1+1+1,0,none⟩) (show W.heap.size+1+1+1+1≠W.heap.size+1+1+1+1+1 by omega) (.int .i64 E2);have BE10:=BE9.set_ 0 (.int .i64 E2);have b10:=zQ7 b9 (p:=⟨W.heap.size+1+1+1+1+1,0,none⟩) (by show W.heap.size≤W.heap.size+1+1+1+1+1;omega) (.int .i64 E2)
  clear B9 BX9 BE9 b9 e0 ze;generalize w9.setCell _ _=w10 at *;have e1:w10.cell? ⟨W.heap.size+1+1+1+1+1,0,none⟩=some (.int .i64 E2):=BE10.cell 0;refine jd (eP ?_);go_wp2_with fail;refine (qf _ _).mono ?_;rintro r w11 ⟨rfl,⟨h0,rfl⟩ | ⟨h0,rfl⟩⟩
  ·exact absurd h0 hm
  ·go_wp2_with fail
   exact hpan.out E2 E2 _ _ _ _ hbad hm b10 BX10 rfl B10 hJz BE10 rfl rfl rfl
 replace hwe:Hid (WE=(match mM o inn with | none=>491 | some u=>if u.length≤4096 then (if o.chain.length<1024 then 0 else 2) else 2)):=by
  show _=_;rw [hwe.out,if_pos hm]
 obtain ⟨ms,hms0,hmsc,hr3,hMx,T1,T2,T3,T4⟩:=hr2 hm;subst hr3;clear hr1 hr2;obtain ⟨M,hM⟩:∃ M,jT rest L t=M:=⟨_,rfl⟩
 have hMi:M.inn=L:=by rw [←hM];rfl
 have hMo:M.out.length≤1000:=by
  rw [←hM];show (t.out rest L L.length).length≤1000;rw [Trn.out_length];unfold kw at hm
  split at hm
  ·split at hm
   ·cases hm
   ·omega
  ·cases hm
 have hMg:∀ x∈M.out,x.ok:=by
  obtain ⟨m1,m2,m3,m4⟩:=EI hm;rw [←hM];exact fun x hx=>FX (aau.1 (Trn.outs_good m4 m1 m3) x hx)
 rw [hM] at hMx T1 T2 T3 T4 ⊢;have MT:MixT w8 ms M:=⟨T1,T2,T3,T4⟩
 have hd34:Hid ((∀ d∈M.left,dL d)∧∀ d∈M.right,dL d):=aab ⟨hMx.d3,hMx.d4⟩
 have hMc:ms.cl M=#[.slice (some ⟨g1,0,none⟩) inn.length inn.length,.slice ms.a1 M.mid.length ms.c1,.slice ms.a2 M.out.length ms.c2,.slice ms.a3 M.left.length ms.c3,.slice ms.a4 M.right.length ms.c4]:=by
  unfold MS.cl;rw [hms0,hmsc,hMi,hLl]
 replace hms0:=aab hms0;replace hmsc:=aab hmsc;replace hMi:=aab hMi;rw [hMc];replace hM:=aab hM;clear hMx T1 T2 T3 T4 hMc;dsimp only
 iterate 13 go_step
 refine aG (by rfl) (by rfl) (by rfl) (by rfl) (pX (X:=#[.slice (some ⟨g1,0,none⟩) inn.length inn.length,.slice ms.a1 M.mid.length ms.c1,.slice ms.a2 M.out.length ms.c2,.slice ms.a3 M.left.length ms.c3,.slice ms.a4 M.right.length ms.c4]) B7 eQ (by rw [hJl];show 2+5≤49;omega) (Vr _ _ _ _ _ _ _ _ _ _ _ _ _ _ _)) ?_;simp only [Act.put];rw [NS];obtain ⟨JJ,hJJ⟩:∃ JJ,(oV (.slice (some ⟨g1,0,none⟩) inn.length inn.length) (.slice (some ⟨g2,0,none⟩) inn.length inn.length) (.slice (some ⟨g1,0,none⟩) inn.length inn.length) (.slice ms.a1 M.mid.length ms.c1) (.slice ms.a2 M.out.length ms.c2) (.slice ms.a3 M.left.length ms.c3) (.slice ms.a4 M.right.length ms.c4) dM.cl).toArray=JJ:=⟨_,rfl⟩
 have hJz:JJ.size=49:=by rw [←hJJ];exact hJl _ _ _ _ _
 rw [hJJ];replace hJJ:=aab hJJ;have B9:=B7.row JJ;have BX9:=BX7.farRow (g':=W.heap.size+1+1+1+1) (by omega) JJ;have BO9:=BO7.farRow (g':=W.heap.size+1+1+1+1) (by omega) JJ;have BH9:=BH7.farRow (g':=W.heap.size+1+1+1+1) (by omega) JJ;have BE9:=BE8.farRow (g':=W.heap.size+1+1+1+1) (by omega) JJ;have G19:=G17.farRow (g':=W.heap.size+1+1+1+1) (by omega) JJ;have G29:=G27.farRow (g':=W.heap.size+1+1+1+1) (by omega) JJ;have MT9:=MT.keep (w':=w8.setRow (W.heap.size+1+1+1+1) JJ) (fun g T cs hT B=>B.farRowT B7 (sW hT (by decide) (by decide)) JJ);have b9:=below_setRow b7 (show W.heap.size≤W.heap.size+1+1+1+1 by omega) JJ;clear B7 BX7 BE8 b7 e0 ze BO7 BH7 BT7 G17 G27 hJl MT;generalize w8.setRow (W.heap.size+1+1+1+1) JJ=w9 at *;have e0:w9.cell? ⟨W.heap.size+1+1+1+1+1,0,none⟩=some (.int .i64 0):=BE9.cell 0;have ze:=BE9.frozen 0;go_wp2_with fail;have BX:=BX9.far (p:=⟨W.heap.size+1+1+1+1+1,0,none⟩) (show W.heap.size+1+1+1≠W.heap.size+1+1+1+1+1 by omega) (.int .i64 0);have BO:=BO9.far (p:=⟨W.heap.size+1+1+1+1+1,0,none⟩) (show W.heap.size≠W.heap.size+1+1+1+1+1 by omega) (.int .i64 0);have BH:=BH9.far (p:=⟨W.heap.size+1+1+1+1+1,0,none⟩) (show W.heap.size+1≠W.heap.size+1+1+1+1+1 by omega) (.int .i64 0);have BJ:=B9.far (p:=⟨W.heap.size+1+1+1+1+1,0,none⟩) (show W.heap.size+1+1+1+1≠W.heap.size+1+1+1+1+1 by omega) (.int .i64 0);have G1:=G19.far (p:=⟨W.heap.size+1+1+1+1+1,0,none⟩) (show g1≠W.heap.size+1+1+1+1+1 by omega) (.int .i64 0);have G2:=G29.far (p:=⟨W.heap.size+1+1+1+1+1,0,none⟩) (show g2≠W.heap.size+1+1+1+1+1 by omega) (.int .i64 0)
 have MT:=MT9.keep (w':=w9.setCell ⟨W.heap.size+1+1+1+1+1,0,none⟩ (.int .i64 0)) (fun g T cs hT B=>B.farTy BE9 (sW hT (by decide) (by decide)) _);have BE:=BE9.set_ 0 (.int .i64 0);have hb:=zQ7 b9 (p:=⟨W.heap.size+1+1+1+1+1,0,none⟩) (by show W.heap.size≤W.heap.size+1+1+1+1+1;omega) (.int .i64 0);clear B9 BX9 BE9 b9 e0 ze BO9 BH9 G19 G29 MT9;generalize w9.setCell _ _=w10 at *;have e1:w10.cell? ⟨W.heap.size+1+1+1+1+1,0,none⟩=some (.int .i64 0):=BE.cell 0;refine jd (eP ?_);go_wp2_with fail;refine (qf _ _).mono ?_;rintro r w11 ⟨rfl,⟨h0,rfl⟩ | ⟨h0,rfl⟩⟩;rotate_left 1
 ·exact absurd rfl h0
 clear h0 e1;go_wp2_with fail;obtain ⟨N,hN⟩:∃ N,w10.heap.size=N:=⟨_,rfl⟩
 have hNe:W.heap.size+1+1+1+1+1+1≤N:=by rw [←hN];exact BE.lt
 have KS:Hid (∀ w',Below w10.heap.size w10 w'→(w'.cell? ⟨W.heap.size,0,none⟩=some (.int .i64 o.no)∧w'.cell? ⟨W.heap.size,1,none⟩=some (.int .i64 o.secret)∧w'.cell? ⟨W.heap.size,3,none⟩=some (.slice Au o.used.length cu))):=aab (fun w' b=>⟨(BO.below b BO.lt).cell 0,(BO.below b BO.lt).cell 1,(BO.below b BO.lt).cell 3⟩);have q5:Hid (∀ w',Below w10.heap.size w10 w'→Calls prog 56 #[.slice Au o.used.length cu] w' (RJ 29 32 o.used.length (o.used.flatMap ag) w')):=aab (fun w' b=>RY Au o.used.length cu o.used w' ((hU.below (ah hb b)).more (aaj hb.size b.size)) hnilU (by omega));refine jd (eP ?_);refine aK (f:=8) KS [(0,1),(1,2),(2,1),(3,2),(4,1),(5,2),(6,0),(7,1),(8,3)] ?_;simp only [bf,aap,aar];refine ak ?_;refine ax ?_;refine ak ?_;refine ax ?_;refine ak ?_;refine ax ?_;refine au (fun K hK=>?_);go_simp;(first | (go_at_call 56;(with_reducible refine (q5.out _ (by with_reducible exact bDr (aj _))).mono ?_);rintro e w12 ⟨v5,rfl,b12,hown⟩;obtain ⟨A5,c5,rfl,hR5⟩:=Rd.of_own hown;have B12:Below w10.heap.size w10 w12:=ah (bDr (aj _)) b12) | skip);refine aH hK KS ?_;clear hK K;refine ak ?_;refine aN ?_
 first | simp only [aak] | simp only [aat,aak]
 have hN2:w10.drew.heap.size=N:=hN;rw [hN2] at hown;clear hR5;have hv5:(Value.slice A5 o.used.length c5).oneCell'=true:=rfl;generalize Value.slice A5 o.used.length c5=v5 at *;have BX12:=BX.below B12 BX.lt;have hXo:∀ v∈(#[.int .i64 o.no,.int .i64 o.secret,.slice none 0 0,v5]:Array Value).toList,v.oneCell'=true:=og _ _ _ _ rfl rfl rfl hv5;refine aG (by rfl) (by rfl) (by rfl) (by rfl) (aQ (X:=#[.int .i64 o.no,.int .i64 o.secret,.slice none 0 0,v5]) BX12 iM rfl hXo) ?_;simp only [Act.put];have BO13:=(BO.below B12 BO.lt).farRow (g':=W.heap.size+1+1+1) (by omega) #[.int .i64 o.no,.int .i64 o.secret,.slice none 0 0,v5];have BH13:=(BH.below B12 BH.lt).farRow (g':=W.heap.size+1+1+1) (by omega) #[.int .i64 o.no,.int .i64 o.secret,.slice none 0 0,v5];have BJ13:=(BJ.below B12 BJ.lt).farRow (g':=W.heap.size+1+1+1) (by omega) #[.int .i64 o.no,.int .i64 o.secret,.slice none 0 0,v5];have BE13:=(BE.below B12 BE.lt).farRow (g':=W.heap.size+1+1+1) (by omega) #[.int .i64 o.no,.int .i64 o.secret,.slice none 0 0,v5];have BX13:=BX12.row #[.int .i64 o.no,.int .i64 o.secret,.slice none 0 0,v5];have G113:=(G1.below B12 G1.lt).farRow (g':=W.heap.size+1+1+1) (by omega) #[.int .i64 o.no,.int .i64 o.secret,.slice none 0 0,v5];have G213:=(G2.below B12 G2.lt).farRow (g':=W.heap.size+1+1+1) (by omega) #[.int .i64 o.no,.int .i64 o.secret,.slice none 0 0,v5];have MTK:Hid (∀ W',(∀ g T cs,g<N→(T=63∨T=29)→Blk (w12.setRow (W.heap.size+1+1+1) #[.int .i64 o.no,.int .i64 o.secret,.slice none 0 0,v5]) g T cs→Blk W' g T cs)→MixT W' ms M):=aab (fun W' h=>MT.keep (fun g T cs hT B=>h g T cs (by rw [←hN];exact B.lt) hT ((B.below B12 B.lt).farRowT BX12 (sW hT (by decide) (by decide)) _)))
 have lt1:g1<N:=by rw [←hN];exact G1.lt
 have lt2:g2<N:=by rw [←hN];exact G2.lt
 have own13:=dm hown BX12 (by decide) #[.int .i64 o.no,.int .i64 o.secret,.slice none 0 0,v5];have hb13:=below_setRow (ah hb B12) (show W.heap.size≤W.heap.size+1+1+1 by omega) #[.int .i64 o.no,.int .i64 o.secret,.slice none 0 0,v5];have hs13:N≤(w12.setRow (W.heap.size+1+1+1) #[.int .i64 o.no,.int .i64 o.secret,.slice none 0 0,v5]).heap.size:=by rw [size_setRow,←hN];exact B12.size
 clear BX BO BH BJ BE G1 G2 MT hown KS q5 BX12 hXo hv5;generalize w12.setRow (W.heap.size+1+1+1) #[.int .i64 o.no,.int .i64 o.secret,.slice none 0 0,v5]=w13 at *;clear hb b12 B12 hN hN2;go_wp2_with fail;refine NoPanic.normal ?_;go_wp2_with fail;refine jd (jd (eP ?_));go_wp2_with fail;refine (IP A2 inn.length c2 w13).mono ?_;rintro r w14 ⟨rfl,hw14⟩;have b14:Below w13.heap.size w13 w14:=by rw [hw14];exact bAl (aj _) _
 have BD:Blk w14 w13.heap.size 34 #[.slice A2 inn.length c2]:=by rw [hw14];exact Blk.new _ _ _ _ rfl
 obtain ⟨bp,hbp⟩:∃ bp,w13.heap.size=bp:=⟨_,rfl⟩
 have hNb:N≤bp:=by rw [←hbp];exact hs13
 rw [hbp] at BD ⊢;replace BO13:=BO13.below b14 BO13.lt;replace BH13:=BH13.below b14 BH13.lt;replace BJ13:=BJ13.below b14 BJ13.lt;replace BE13:=BE13.below b14 BE13.lt;replace BX13:=BX13.below b14 BX13.lt;replace G113:=G113.below b14 G113.lt;replace G213:=G213.below b14 G213.lt;replace MTK:Hid (∀ W',KeptT N w14 W'→MixT W' ms M):=aab (fun W' h=>MTK.out W' (fun g T cs hg hT B=>h g T cs hg (B.below b14 B.lt) (sW hT (by decide) (by decide))));replace own13:=aC own13 b14;replace hb13:=ah hb13 b14;replace hs13:=aaj hs13 b14.size;clear hw14 b14 hbp;go_wp2_with fail;refine PQ ?_
 refine IM 2 func13 (gf:=142) (lb:=#[.pointer (some ⟨bp,0,none⟩)]) rfl (enters_of func142 (by kernel_rfl) rfl)
  (Kp:=KeepsC (fun k=>k<W.heap.size∨k=bp)) (Dy bp W.heap.size (fun k=>k<W.heap.size∨k=bp) (.inr rfl) A2 c2 inn hio w14 (fun k hk => .inl hk) (.inl hG.2.2.1) (.inl hG.2.2.2) BD (hI.below hb13) hb13.size (by omega) (hG.below hb13))
  KeepsC.trans (fun W l o o' _ hl ho _=>KeepsC.put W l o o' hl ho) (fun _=>rfl)
  (fun xs W'=>Below W.heap.size W W'∧KeptT N w14 W'∧w14.heap.size≤W'.heap.size∧Blk W' W.heap.size 25 #[.int .i64 o.no,.int .i64 o.secret,.slice A o.chain.length c,.slice Au o.used.length cu]∧Blk W' bp 34 #[.slice A2 inn.length c2] ∧
   ∃ v u,Blk W' (W.heap.size+1+1+1) 25 #[.int .i64 o.no,.int .i64 o.secret,.slice none 0 0,v]∧W'.ownsRow N 29 32 v u.length (u.flatMap ag)∧Hid (iL o.used (xs.map kD)=some u∧(∀ y∈u,dL y)∧xM u∧u.length=o.used.length+xs.length))
  (fun ch W'=>ch=[{ v := .iface 42 (.int .i64 491),recovered:=false }]∧Hid (mM o inn=none)∧Below W.heap.size W W'∧KeptT N w14 W'∧∃ X,X.size=4∧Blk W' (W.heap.size+1+1+1) 25 X)
  ?own ?start ?round ?done ?pan
 case own =>
  rintro xs W1 W2 row ⟨h1,h2,h3,h4,h5,v,u,h6,h7,h8⟩ hg hr;exact ⟨gz h1 hg (by omega) hr,h2.kept hg hr,aaj h3 hg.size,h4.kept hg hr,h5.kept hg hr,v,u,h6.kept hg hr,Cm h7 hg hr,h8⟩
 case start =>
  have hrs:xM o.used:=by
   unfold Ofc.good at hgood;simp only [aal] at hgood;exact xy.1 hgood.2.2.1
  exact ⟨hb13,KeptT.refl _ _,aad _,BO13,BD,v5,o.used,BX13,own13,aab ⟨rfl,hok,hrs,rfl⟩⟩
 case round =>
  have hWs:=hb13.size;clear BO13 BH13 BJ13 BE13 BX13 G113 G213 MTK own13 hb13 hs13 BD;rintro l pre x Wc ⟨hbc,hk,hsz,BO,BP,v,u,BX,hown,hu⟩ hpr;obtain ⟨hu1,hu2,hu3,hu4⟩:=hu.out;have hulen:u.length≤1000000:=by have:=hin;have:=List.IsPrefix.length_le hpr;rw [aan] at this;omega
  replace hu4:=aab hu4;replace hu1:=aab hu1;have hbpw:=BP.lt;obtain ⟨Av,cv,rfl,hRv⟩:=Rd.of_own hown;have hdl:=NH x;have hDs:(ag (kD x)).toArray.size=32:=by rw [aae,ai,hdl.1]
  unfold dig;have hbx:=bAl (aj Wc) (.cells (ag (kD x)).toArray 29);have BG:=Blk.new Wc 29 (ag (kD x)).toArray _ rfl
  gi_upto_region 12 with fail
  apply wpIn_region_lit
  iterate 3 gi_step
  refine kZ rfl rfl rfl rfl (su (by rw [hDs];exact aW) (by rw [hDs];rfl) (fK _)) ?_;refine wpListIn_nil ?_
  refine ⟨KeepsOthers.below hbx,KeepsC.below hbx,(fun W2=>(Below W.heap.size W W2∧KeptT N w14 W2∧Wc.heap.size≤W2.heap.size∧Blk W2 W.heap.size 25 #[.int .i64 o.no,.int .i64 o.secret,.slice A o.chain.length c,.slice Au o.used.length cu]∧Blk W2 bp 34 #[.slice A2 inn.length c2] ∧
   Blk W2 (W.heap.size+1+1+1) 25 #[.int .i64 o.no,.int .i64 o.secret,.slice none 0 0,.slice Av u.length cv]∧W2.ownsRow N 29 32 (.slice Av u.length cv) u.length (u.flatMap ag))∧Blk W2 Wc.heap.size 29 (ag (kD x)).toArray),?_,⟨⟨ah hbc hbx,hk.trans (KeptT.below hbx),hbx.size,BO.below hbx BO.lt,BP.below hbx BP.lt,BX.below hbx BX.lt,aC hown hbx⟩,BG⟩,?_⟩
  ·rintro _ W1 W2 row ⟨⟨h1,h2,h3,h4,h5,h6,h7⟩,h8⟩ hg hr
   exact ⟨⟨gz h1 hg (by omega) hr,h2.kept hg hr,aaj h3 hg.size,h4.kept hg hr,h5.kept hg hr,h6.kept hg hr,Cm h7 hg hr⟩,h8.kept hg hr⟩
  clear BO BP BX hown hRv BG hbx hk hbc;rintro L W2 ⟨⟨hbc,hk,hsz2,BO,BP,BX,hown⟩,BG⟩;obtain ⟨_,_,he,hRv⟩:=Rd.of_own hown;injection he with e1 _ e2
  subst e1;subst e2;have q:=Wn Av cv u (kD x) W2 hRv hu2 hdl hu3 hulen;have x3:W2.cell? ⟨W.heap.size+1+1+1,3,none⟩=some (.slice Av u.length cv):=BX.cell 3;obtain ⟨F,hF⟩:∃ F,Hid (decide (kD x∈u)=F):=⟨_,aab rfl⟩
  obtain ⟨at_,hat⟩:∃ k:Nat,Hid (jU (kD x) u=k):=⟨_,aab rfl⟩
  rw [hF.out,hat.out] at q
  gi_upto_region 13 with fail
  apply wpIn_region_lit
  iterate 6 gi_step
  refine zx (by rfl) rfl rfl (bg BG bQ rfl (by rw [hDs];exact aW)) ?_
  gi_wp2
  refine ⟨trivial,?_⟩;refine (inR L q).mono ?_;rintro e w3 ⟨rfl,b3⟩;clear q x3 hRv;have hsW3:=b3.size;replace hbc:=ah hbc b3;replace hk:=hk.trans (KeptT.below b3);replace BO:=BO.below b3 BO.lt;replace BP:=BP.below b3 BP.lt;replace BX:=BX.below b3 BX.lt;replace BG:=BG.below b3 BG.lt;replace hown:=aC hown b3;obtain ⟨ask,hask⟩:∃ a:Ask,a=⟨60,#[.pointer (some ⟨w3.heap.size,0,none⟩)],!F,491⟩:=⟨_,rfl⟩
  have q2:Calls prog 52 #[.slice (some ⟨w3.heap.size+1,0,none⟩) 1 1] ((w3.alloc (.cells #[.bool F] 4)).alloc (.cells #[.func (.func 60) #[] #[.pointer (some ⟨w3.heap.size,0,none⟩)],.int .i64 491] 110)) (ui [ask] ((w3.alloc (.cells #[.bool F] 4)).alloc (.cells #[.func (.func 60) #[] #[.pointer (some ⟨w3.heap.size,0,none⟩)],.int .i64 491] 110))):=by
   have BF:Blk ((w3.alloc (.cells #[.bool F] 4)).alloc (.cells #[.func (.func 60) #[] #[.pointer (some ⟨w3.heap.size,0,none⟩)],.int .i64 491] 110)) w3.heap.size 4 #[.bool F]:=(Blk.new w3 _ _ _ rfl).alloc _;refine wW (some ⟨w3.heap.size+1,0,none⟩) 1 [ask] _ ?_ (by simp) (fun k a ha _ w' h'=>?_) (fun a ha args w=>?_)
   ·rw [hask]
    exact Rd.new _ [.func (.func 60) #[] #[.pointer (some ⟨w3.heap.size,0,none⟩)],.int .i64 491] _ 2 1 _ (by simp) rfl
   ·match k,ha with
    | 0,ha =>
     injection ha with ha;subst ha;rw [hask]
     exact SQ w3.heap.size F w' (BF.below h' BF.lt)
    | k+1,ha=>simp at ha
   ·obtain rfl:a=ask:=by simpa using ha
    rw [hask];exact enters_of func60 (by kernel_rfl) rfl args w
  gi_wp2
  refine ⟨trivial,?_⟩;refine (inR L q2).mono ?_;rintro r w5 ⟨b5,hr⟩;clear q2;replace b5:=ah (bAl (bAl (aj w3) _) _) b5;have hsW5:=b5.size;replace hbc:=ah hbc b5;replace hk:=hk.trans (KeptT.below b5);replace BO:=BO.below b5 BO.lt;replace BP:=BP.below b5 BP.lt;replace BX:=BX.below b5 BX.lt;replace BG:=BG.below b5 BG.lt;replace hown:=aC hown b5;have b25:=ah b3 b5;clear b3 b5;rcases hr with ⟨h0,rfl⟩ | ⟨h0,rfl⟩
  rotate_left 1
  ·have hf:F=true:=by
    obtain ⟨y,hy,hyf⟩:=h0;obtain rfl:y=ask:=(by simpa using hy);rw [hask] at hyf;cases F
    ·cases hyf
    ·rfl
   have hE:mX [ask]=491:=(by unfold mX;rw [if_neg (by rw [hask,hf];simp),hask]);have hin2:kD x∈u:=of_decide_eq_true (hF.out.trans hf);rw [hE]
   gi_wp2
   exact ⟨rfl,KeepsOthers.below b25,rfl,aab (I5 hu1.out hpr hin2),hbc,hk,_,rfl,BX⟩
  have hf:F=false:=by
   have:=h0 ask (by simp)
   rw [hask] at this;cases F
   ·rfl
   ·cases this
  have hnin:kD x ∉ u:=of_decide_eq_false (hF.out.trans hf);have hnext:=aab (I7 hu1.out hnin);have hris:=aab (Gl hu3 (fun y hy=>by rw [(hu2 y hy).1,hdl.1]) hnin);clear h0 hask ask hf;have x3:w5.cell? ⟨W.heap.size+1+1+1,3,none⟩=some (.slice Av u.length cv):=BX.cell 3;have hbw:=bAl (aj w5) (.cells (ag (kD x)).toArray 29);have q3:=U9 N (.slice Av u.length cv) u (kD x) w5.heap.size (w5.alloc (.cells (ag (kD x)).toArray 29)) (aC hown hbw) hu2 (Blk.new w5 _ _ _ rfl) (Lj hown (aad _)) hdl hulen (by have:=BP.lt;have:=hbw.size;omega);rw [hat.out] at q3
  gi_upto_region 15 with fail
  apply wpIn_region_lit
  iterate 9 gi_step
  refine zx (by rfl) rfl rfl (bg BG bQ rfl (by rw [hDs];exact aW)) ?_;simp only [Act.put,aaf,aai,aah];refine FW (by rfl) rfl (by rfl) (jP underlying23 dN hDs (by omega) (by omega) w5) ?_;have hown5:=aC hown hbw;have BX5:=BX.below hbw BX.lt;have BO5:=BO.below hbw BO.lt;have BP5:=BP.below hbw BP.lt;have hk5:=hk.trans (KeptT.below hbw);have hbc5:=ah hbc hbw;have hsz5:=hbw.size;have b26:=ah b25 hbw;clear hown BX BO BP BG hk hbc b25 hbw;generalize w5.alloc (.cells (ag (kD x)).toArray 29)=w6 at *
  gi_wp2
  refine ⟨trivial,?_⟩;refine (inR L q3).mono ?_;rintro e w7 ⟨v7,rfl,hown7,hg7⟩;obtain ⟨A7,c7,rfl,_⟩:=Rd.of_own hown7;clear q3 x3;have hNw6:N≤w6.heap.size:=by have:=BP5.lt;omega
  have BX7:=hg7.blk hown5 BX5 (by decide);have BO7:=hg7.blk hown5 BO5 (by decide);have BP7:=hg7.blk hown5 BP5 (by decide);have hk7:=hk5.grew hown5 hg7;have hbc7:=hbc5.trans ((hg7.below hown5 hNw6).mono (by omega));have ko7:=(KeepsOthers.below b26).trans (IZ hown5 hg7)
  have kc7:=(KeepsC.below (K:=fun k=>k<W.heap.size∨k=bp) b26).trans (I4 hg7 (fun g hg=>by
   rcases hg with hg | rfl
   ·exact EE hown5 (by omega)
   ·exact PS hown5 BP5 (by decide)))
  have hs7:=hg7.size;have x3:w7.cell? ⟨W.heap.size+1+1+1,3,none⟩=some (.slice Av u.length cv):=BX7.cell 3;have z3:=BX7.frozen 3;clear hown5 BX5 BO5 BP5 hk5 hbc5 b26 hg7
  gi_wp2
  refine ⟨ko7.trans (KeepsOthers.setCell _ _ _),kc7.set_ (by show ¬(W.heap.size+1+1+1<W.heap.size∨W.heap.size+1+1+1=bp);omega) _,zQ7 hbc7 (by show W.heap.size≤W.heap.size+1+1+1;omega) _,hk7.setO BX7 _,by show _≤(w7.setCell _ _).heap.size;simp [World.setCell];omega,BO7.far (p:=⟨W.heap.size+1+1+1,3,none⟩) (by show W.heap.size≠W.heap.size+1+1+1;omega) _,BP7.far (p:=⟨W.heap.size+1+1+1,3,none⟩) (by show bp≠W.heap.size+1+1+1;omega) _,
   _,vH (kD x) u,BX7.set_ 3 _,dV hown7 BX7 (by decide),aab ⟨hnext.out,fun y hy=>?_,hris.out,?_⟩⟩
  ·rcases vI.1 hy with rfl | hy
   ·exact hdl
   ·exact hu2 y hy
  ·rw [yJ,hu4.out,aan,List.length_singleton];omega
 case pan =>
  rintro D ch W1 hD ⟨rfl,hno,hbc,hk,X,hX,BX⟩ hdd;have hbad:WE=491:=by rw [hwe.out,hno.out]
  have BJ:=hk _ _ _ (by omega) BJ13 (by decide);have BE:=hk _ _ _ (by omega) BE13 (by decide);refine cZ (by simp) hdd ?_;exact hpan.out 491 0 _ _ X JJ hbad (by omega) (uQ hbc (aaj hb13.size hD) _) (BX.put hdd rfl) hX (BJ.put hdd rfl) hJz (BE.put hdd rfl) rfl rfl rfl
 case done =>
  rintro D xs W1 hD rfl ⟨hbc,hk,hsz,BO,BP,v,u,BX,hown,hu⟩ hdd;obtain ⟨hu1,hu2,_,hu4⟩:=hu.out;have BJ:=hk _ _ _ (by omega) BJ13 (by decide);have BE:=hk _ _ _ (by omega) BE13 (by decide);have BH:=hk _ _ _ (by omega) BH13 (by decide);have G1:=hk _ _ _ (by omega) G113 (by decide);have G2:=hk _ _ _ (by omega) G213 (by decide);have MT:=MTK.out W1 hk;have hDN:W.heap.size+1+1+1+1+1+1≤D:=by have:=BD.lt;omega
  have hwu:mM o xs=some u:=hu1
  replace hwe:Hid (WE=(if u.length≤4096 then (if o.chain.length<1024 then 0 else 2) else 2)):=by
   show _=_;rw [hwe.out,hwu]
  replace hwu:=aab hwu;obtain ⟨Av,cv,rfl,hRv⟩:=Rd.of_own hown;clear hu BP BO13 BH13 BJ13 BE13 BX13 G113 G213 MTK own13 hs13 BD hk hu1 hRv;replace hu4:=aab hu4;have hDs:w14.heap.size≤D:=hD;have hWs:=hb13.size;clear hb13;show wpF _ _ _ _ _ _;refine eP ?_;obtain ⟨ask,hask⟩:∃ a:Ask,a=⟨62,#[.pointer (some ⟨W.heap.size+1+1+1,0,none⟩)],decide (u.length≤4096),2⟩:=⟨_,rfl⟩
  have q2:Calls prog 52 #[.slice (some ⟨W1.heap.size,0,none⟩) 1 1] (W1.alloc (.cells #[.func (.func 62) #[] #[.pointer (some ⟨W.heap.size+1+1+1,0,none⟩)],.int .i64 2] 110)) (ui [ask] (W1.alloc (.cells #[.func (.func 62) #[] #[.pointer (some ⟨W.heap.size+1+1+1,0,none⟩)],.int .i64 2] 110))):=by
   have BX5:=BX.alloc (.cells #[.func (.func 62) #[] #[.pointer (some ⟨W.heap.size+1+1+1,0,none⟩)],.int .i64 2] 110);refine wW (some ⟨W1.heap.size,0,none⟩) 1 [ask] _ ?_ (by simp) (fun k a ha _ w' h'=>?_) (fun a ha args w=>?_)
   ·rw [hask]
    exact Rd.new W1 [.func (.func 62) #[] #[.pointer (some ⟨W.heap.size+1+1+1,0,none⟩)],.int .i64 2] _ 2 1 _ rfl rfl
   ·match k,ha with
    | 0,ha =>
     injection ha with ha;subst ha;rw [hask]
     exact Wv (W.heap.size+1+1+1) _ _ _ Av u.length cv w' (BX5.below h' BX5.lt)
    | k+1,ha=>simp at ha
   ·obtain rfl:a=ask:=by simpa using ha
    rw [hask];exact enters_of func62 (by kernel_rfl) rfl args w
  go_wp2_with fail;refine q2.mono ?_;rintro r w5 ⟨b5,hr⟩;clear q2;replace b5:=ah (bAl (aj W1) _) b5;have hDW:D<W1.heap.size:=(aaI.1 hdd).1;replace hdd:=(b5.block D hDW).trans hdd;replace hbc:=ah hbc b5;replace BO:=BO.below b5 BO.lt;replace BX:=BX.below b5 BX.lt;replace BJ:=BJ.below b5 BJ.lt;replace BE:=BE.below b5 BE.lt;replace BH:=BH.below b5 BH.lt;replace G1:=G1.below b5 G1.lt;replace G2:=G2.below b5 G2.lt;replace MT:=MT.keep (w':=w5) (fun g T cs _ B=>B.below b5 B.lt);replace hown:=aC hown b5;clear b5 hDW;rcases hr with ⟨h0,rfl⟩ | ⟨h0,rfl⟩
  rotate_left 1
  ·have hf:ask.ok=false:=by
    obtain ⟨y,hy,hyf⟩:=h0;obtain rfl:y=ask:=(by simpa using hy);exact hyf
   have hE:mX [ask]=2:=by unfold mX;rw [if_neg (by rw [hf];simp),hask]
   have hbad:WE=2:=by
    rw [hwe.out,if_neg];intro h1;rw [hask] at hf;rw [show decide (u.length≤4096)=true from decide_eq_true h1] at hf;cases hf
   rw [hE];clear hf hE h0;go_wp2_with fail;refine cZ (by simp) hdd ?_;exact hpan.out 2 0 _ _ _ JJ hbad (by omega) (uQ hbc (aaj hWs hDs) _) (BX.put hdd rfl) rfl (BJ.put hdd rfl) hJz (BE.put hdd rfl) rfl rfl rfl
  have hu4096:u.length≤4096:=by
   have:=h0 ask (by simp)
   rw [hask] at this;exact of_decide_eq_true this
  replace hwe:Hid (WE=(if o.chain.length<1024 then 0 else 2)):=by
   show _=_;rw [hwe.out,if_pos hu4096]
  replace hu4096:=aab hu4096;clear h0 hask ask
  have hMox:M.out.length=xs.length:=by
   rw [←hM.out];show (t.out rest L L.length).length=_;rw [Trn.out_length,hLl]
  have hMo64:M.out.length≤64:=by
   have:=EI hm
   omega
  have q7:Hid (∀ w',Below w5.heap.size w5 w'→Calls prog 25 #[.slice ms.a2 M.out.length ms.c2] w' (Ret (dig (kN M.out)) w')):=aab (fun w' b=>NE ms.a2 ms.c2 M.out hMg w' ((MT.keep (w':=w') (fun g T cs _ B=>B.below b B.lt)).t2.rd) hMo (hG.below (ah hbc b)))
  have j4:w5.cell? ⟨W.heap.size+1+1+1+1,4,none⟩=some (.slice ms.a2 M.out.length ms.c2):=by
   rw [BJ.cell,←hJJ.out];rfl
  have q7':=q7.out w5 (aj _);unfold dig at q7';have hroot:dL (kN M.out):=wO _;have hRDl:(ag (kN M.out)).toArray.size=32:=by rw [aae,ai,hroot.1]
  clear q7;replace hMox:=aab hMox;go_wp2_with fail;refine q7'.mono ?_;rintro r w6 ⟨rfl,b6⟩;clear q7' j4;have hDW:D<w5.heap.size:=(aaI.1 hdd).1;replace hdd:=(b6.block D hDW).trans hdd;replace hbc:=ah hbc b6;replace BO:=BO.below b6 BO.lt;replace BX:=BX.below b6 BX.lt;replace BJ:=BJ.below b6 BJ.lt;replace BE:=BE.below b6 BE.lt;replace BH:=BH.below b6 BH.lt;replace G1:=G1.below b6 G1.lt;replace G2:=G2.below b6 G2.lt;replace MT:=MT.keep (w':=w6) (fun g T cs _ B=>B.below b6 B.lt);replace hown:=aC hown b6;clear b6 hDW;have c6:w6.cell? ⟨W.heap.size+1,6,none⟩=some (.int .i64 0):=(BH.cell 6).trans (by rw [aaG];exact (Hd.cells hok4).2.2.2.2.2.2.1);have z6:=BH.frozen 6;have BH7:=BH.set_ 6 (.int .i64 (xs.length:Nat));rw [NQ h.open_ (xs.length:Nat)] at BH7;have hok7:({ h.open_ with many:=(xs.length:Nat) } : Hd).ok:=Hd.ok_many hok4 (by unfold inI;omega);have hl7:({ h.open_ with many:=(xs.length:Nat) } : Hd).cl.toArray.size=42:=by simpa using Hd.cl_length hok7
  have hR8:=NR hok7 (d:=kN M.out) hroot.1
  have hfor:({ ({ h.open_ with many:=(xs.length:Nat) } : Hd) with root:=kN M.out } : Hd)=h.for_ M.out:=by
   unfold Hd.for_;rw [hMox.out];rfl
  rw [hfor] at hR8;have hok8:(h.for_ M.out).ok:=by rw [←hfor];exact Hd.ok_root hok7 hroot
  dsimp only
  iterate 10 go_step
  refine aG (by rfl) (by rfl) (by rfl) (by rfl) (pX (X:=(ag (kN M.out)).toArray) BH7 (by rw [hRDl];exact aW) (by rw [hl7,hRDl];omega) (by intro v hv;exact aZ v (by simpa using hv))) ?_;simp only [Act.put];rw [show ((({ h.open_ with many:=(xs.length:Nat) } : Hd).cl.toArray.toList.take 7++(ag (kN M.out)).toArray.toList++({ h.open_ with many:=(xs.length:Nat) } : Hd).cl.toArray.toList.drop (7+(ag (kN M.out)).toArray.size)).toArray)=(h.for_ M.out).cl.toArray from (by rw [aae];exact congrArg List.toArray hR8)];obtain ⟨w8,hw8⟩:∃ w8,w8=(w6.setCell ⟨W.heap.size+1,6,none⟩ (.int .i64 (xs.length:Nat))).setRow (W.heap.size+1) (h.for_ M.out).cl.toArray:=⟨_,rfl⟩
  have keep8:∀ {g:Nat} {T:TypeId} {cs:Array Value},Blk w6 g T cs→g≠W.heap.size+1→Blk w8 g T cs:=fun B hne=>by rw [hw8];exact (B.far (p:=⟨W.heap.size+1,6,none⟩) hne _).farRow hne _
  have MT8:MixT w8 ms M:=by rw [hw8];exact MT.keep (fun g T cs hT B=>(B.farTy BH (sW hT (by decide) (by decide)) _).farRowT BH7 (sW hT (by decide) (by decide)) _)
  have hdd8:w8.heap[D]?=some (.deferred (some [])):=by rw [hw8,setRow_other _ _ _ _ (by omega:D≠W.heap.size+1)];exact (Below.heap_setCell _ _ _ _ (by show D≠W.heap.size+1;omega)).trans hdd
  have own8:w8.ownsRow N 29 32 (.slice Av u.length cv) u.length (u.flatMap ag):=by rw [hw8];exact dm (dV hown BH (by decide)) BH7 (by decide) _
  replace BO:=keep8 BO (by omega);replace BX:=keep8 BX (by omega);replace BJ:=keep8 BJ (by omega);replace BE:=keep8 BE (by omega);replace G1:=keep8 G1 (by omega);replace G2:=keep8 G2 (by omega);replace BH:Blk w8 (W.heap.size+1) 33 (h.for_ M.out).cl.toArray:=by rw [hw8];exact BH7.row _
  replace hbc:Below W.heap.size W w8:=by rw [hw8];exact below_setRow (zQ7 hbc (by show W.heap.size≤W.heap.size+1;omega) _) (by omega) _
  rw [←hw8];clear hw8 keep8 BH7 hl7 hR8 hfor hok7 c6 z6 MT hdd hown;have hf8:(h.for_ M.out).formed=true:=Ll hgo.2 hMo64;have q9:=NG o.secret hsec (h.for_ M.out) hok8 w8 (hG.below hbc);have hm9:uF o.secret (h.for_ M.out)=mJ o.secret (h.for_ M.out):=if_pos hf8;have he9:CE (h.for_ M.out)=0:=if_pos hf8;rw [hm9,he9] at q9;have hok9:(mJ o.secret (h.for_ M.out)).ok:=CG hok8;obtain ⟨S,hS⟩:∃ S,mJ o.secret (h.for_ M.out)=S:=⟨_,rfl⟩
  rw [hS] at q9 hok9;have hcl8:Hid ((h.for_ M.out).cl.toArray.size=42):=aab (by simpa using Hd.cl_length hok8);have hcl9:Hid (S.cl.length=42):=aab (Hd.cl_length hok9);have hone9:Hid (∀ v∈S.cl.toArray.toList,v.oneCell'=true):=aab (by simpa using Hd.one S);clear hm9 he9 hf8 hroot hRDl;replace hS:=aab hS;have d1:=BO.cell 1;go_upto_region 18 with fail;apply wp_region_lit
  iterate 6 go_step
  refine aP (by rfl) (by rfl) (by rfl) (bg BH underlying33 rfl (by rw [hcl8.out];exact cO)) ?_;simp only [Act.put,aaf,aai,aah];go_wp2_with fail;refine q9.mono ?_;rintro r w9 ⟨rfl,b9⟩;clear q9 d1;have hDW:D<w8.heap.size:=(aaI.1 hdd8).1;have hdd:=(b9.block D hDW).trans hdd8;replace hbc:=ah hbc b9;replace BO:=BO.below b9 BO.lt;replace BX:=BX.below b9 BX.lt;replace BJ:=BJ.below b9 BJ.lt;replace BE:=BE.below b9 BE.lt;replace BH:=BH.below b9 BH.lt;replace G1:=G1.below b9 G1.lt;replace G2:=G2.below b9 G2.lt;have MT:=MT8.keep (w':=w9) (fun g T cs _ B=>B.below b9 B.lt);have hown:=aC own8 b9;clear b9 hDW hdd8 MT8 own8;rw [←hJJ.out] at BJ;dsimp only
  iterate 13 go_step
  refine aG (by rfl) (by rfl) (by rfl) (by rfl) (pX (X:=S.cl.toArray) BJ (by rw [aae,hcl9.out];exact cO) (by rw [hJJ.out,hJz,aae,hcl9.out];omega) hone9.out) ?_;simp only [Act.put];rw [Tq _ _ _ _ _ _ _ nG hcl9.out];obtain ⟨J2,hJ2⟩:∃ JJ,(oV (.slice (some ⟨g1,0,none⟩) xs.length xs.length) (.slice (some ⟨g2,0,none⟩) xs.length xs.length) (.slice (some ⟨g1,0,none⟩) xs.length xs.length) (.slice ms.a1 M.mid.length ms.c1) (.slice ms.a2 M.out.length ms.c2) (.slice ms.a3 M.left.length ms.c3) (.slice ms.a4 M.right.length ms.c4) S.cl).toArray=JJ:=⟨_,rfl⟩
  have hJ2z:J2.size=49:=by
   rw [←hJ2,aae];show S.cl.length+7=49;rw [hcl9.out]
  have hJ2h:Hid (∀ j u,S.cl[j]?=some u→J2[7+j]?=some u):=aab (fun j u hu=>by rw [←hJ2,FP];exact hu)
  have hJ2o:Hid (∀ v∈J2.toList,v.oneCell'=true):=aab (by
   rw [←hJ2];exact xx ⟨rfl,rfl,rfl,rfl,rfl,rfl,rfl⟩ (Hd.one S))
  rw [hJ2];replace hJ2:=aab hJ2;have BO10:=BO.farRow (g':=W.heap.size+1+1+1+1) (by omega) J2;have BX10:=BX.farRow (g':=W.heap.size+1+1+1+1) (by omega) J2;have BE10:=BE.farRow (g':=W.heap.size+1+1+1+1) (by omega) J2;have BH10:=BH.farRow (g':=W.heap.size+1+1+1+1) (by omega) J2;have G110:=G1.farRow (g':=W.heap.size+1+1+1+1) (by omega) J2;have G210:=G2.farRow (g':=W.heap.size+1+1+1+1) (by omega) J2;have BJ10:=BJ.row J2;have MT10:=MT.keep (w':=w9.setRow (W.heap.size+1+1+1+1) J2) (fun g T cs hT B=>B.farRowT BJ (sW hT (by decide) (by decide)) J2);have own10:=dm hown BJ (by decide) J2;have hdd10:(w9.setRow (W.heap.size+1+1+1+1) J2).heap[D]?=some (.deferred (some [])):=by rw [setRow_other _ _ _ _ (by omega:D≠W.heap.size+1+1+1+1)];exact hdd
  have hbc10:=below_setRow hbc (show W.heap.size≤W.heap.size+1+1+1+1 by omega) J2;clear BO BX BE BH G1 G2 BJ MT hown hdd hbc;generalize w9.setRow (W.heap.size+1+1+1+1) J2=w10 at *;have e0:w10.cell? ⟨W.heap.size+1+1+1+1+1,0,none⟩=some (.int .i64 0):=BE10.cell 0;have ze:=BE10.frozen 0;go_upto_region 19 with fail;have BO:=BO10.far (p:=⟨W.heap.size+1+1+1+1+1,0,none⟩) (by show W.heap.size≠W.heap.size+1+1+1+1+1;omega) (.int .i64 0);have BX:=BX10.far (p:=⟨W.heap.size+1+1+1+1+1,0,none⟩) (by show W.heap.size+1+1+1≠W.heap.size+1+1+1+1+1;omega) (.int .i64 0);have BH:=BH10.far (p:=⟨W.heap.size+1+1+1+1+1,0,none⟩) (by show W.heap.size+1≠W.heap.size+1+1+1+1+1;omega) (.int .i64 0);have BJ:=BJ10.far (p:=⟨W.heap.size+1+1+1+1+1,0,none⟩) (by show W.heap.size+1+1+1+1≠W.heap.size+1+1+1+1+1;omega) (.int .i64 0);have G1:=G110.far (p:=⟨W.heap.size+1+1+1+1+1,0,none⟩) (by show g1≠W.heap.size+1+1+1+1+1;omega) (.int .i64 0);have G2:=G210.far (p:=⟨W.heap.size+1+1+1+1+1,0,none⟩) (by show g2≠W.heap.size+1+1+1+1+1;omega) (.int .i64 0);have MT:=MT10.keep (w':=w10.setCell ⟨W.heap.size+1+1+1+1+1,0,none⟩ (.int .i64 0)) (fun g T cs hT B=>B.farTy BE10 (sW hT (by decide) (by decide)) _);have hown:(w10.setCell ⟨W.heap.size+1+1+1+1+1,0,none⟩ (.int .i64 0)).ownsRow N 29 32 (.slice Av u.length cv) u.length (u.flatMap ag):=dV own10 BE10 (by decide);have hdd:(w10.setCell ⟨W.heap.size+1+1+1+1+1,0,none⟩ (.int .i64 0)).heap[D]?=some (.deferred (some [])):=(Below.heap_setCell _ _ _ _ (by show D≠W.heap.size+1+1+1+1+1;omega)).trans hdd10
  have BE:=BE10.set_ 0 (.int .i64 0);have hbc:=zQ7 hbc10 (p:=⟨W.heap.size+1+1+1+1+1,0,none⟩) (by show W.heap.size≤W.heap.size+1+1+1+1+1;omega) (.int .i64 0);clear BO10 BX10 BH10 BJ10 G110 G210 MT10 own10 hdd10 BE10 hbc10 e0 ze;generalize w10.setCell ⟨W.heap.size+1+1+1+1+1,0,none⟩ (.int .i64 0)=w11 at *;have e0:w11.cell? ⟨W.heap.size+1+1+1+1+1,0,none⟩=some (.int .i64 0):=BE.cell 0;go_wp2_with fail;refine (qf _ _).mono ?_;rintro r w12' ⟨rfl,⟨h0,rfl⟩ | ⟨h0,rfl⟩⟩;rotate_left 1
  ·exact absurd rfl h0
  clear h0 e0;go_upto_region 20 with fail;apply wp_region_lit
  iterate 3 go_step
  refine aP (by rfl) (by rfl) (by rfl) (run_loadAt_mid (P:=prog) w11 (W.heap.size+1+1+1+1) 7 33 S.cl _ (fun j u hu=>by rw [BJ.cell];exact hJ2h.out j u hu) underlying33 rfl (by rw [hcl9.out];exact cO)) ?_;simp only [Act.put,aaf,aai,aah];refine aG (by rfl) (by rfl) (by rfl) (by rfl) (aQ (X:=S.cl.toArray) BH (by rw [aae,hcl9.out];exact cO) (by rw [hcl8.out,aae,hcl9.out]) hone9.out) ?_;simp only [Act.put];have BO12:=BO.farRow (g':=W.heap.size+1) (by omega) S.cl.toArray;have BX12:=BX.farRow (g':=W.heap.size+1) (by omega) S.cl.toArray;have BE12:=BE.farRow (g':=W.heap.size+1) (by omega) S.cl.toArray;have BJ12:=BJ.farRow (g':=W.heap.size+1) (by omega) S.cl.toArray;have G112:=G1.farRow (g':=W.heap.size+1) (by omega) S.cl.toArray;have G212:=G2.farRow (g':=W.heap.size+1) (by omega) S.cl.toArray;have BH12:=BH.row S.cl.toArray;have MT12:=MT.keep (w':=w11.setRow (W.heap.size+1) S.cl.toArray) (fun g T cs hT B=>B.farRowT BH (sW hT (by decide) (by decide)) S.cl.toArray);have own12:=dm hown BH (by decide) S.cl.toArray;have hdd12:(w11.setRow (W.heap.size+1) S.cl.toArray).heap[D]?=some (.deferred (some [])):=by rw [setRow_other _ _ _ _ (by omega:D≠W.heap.size+1)];exact hdd
  have hbc12:=below_setRow hbc (show W.heap.size≤W.heap.size+1 by omega) S.cl.toArray;clear BO BX BE BH G1 G2 BJ MT hown hdd hbc;generalize w11.setRow (W.heap.size+1) S.cl.toArray=w20 at *;go_upto_region 21 with fail;have hSc:=Hd.cells hok9;have hroot9:=hok9.2.2.2.2.2.2.2.1;have hSt:S.text.length≤300:=zq hroot9.1;obtain ⟨R,hR⟩:∃ R,(ag S.root).toArray=R:=⟨_,rfl⟩
  have cS:∀ w',Below w20.heap.size w20 w'→∀ j u,S.cl[j]?=some u→w'.cell? ⟨W.heap.size+1,j,none⟩=some u:=fun w' b j u hu=>by
   rw [(BH12.below b BH12.lt).cell,aaG];exact hu
  have KS:Hid (∀ w',Below w20.heap.size w20 w'→((Instr.loadAt 29 (.pointer (some ⟨W.heap.size+1,7,none⟩))).run prog w' = .ok (.agg R) w'∧w'.cell? ⟨W.heap.size,2,none⟩=some (.slice A o.chain.length c)∧w'.cell? ⟨W.heap.size,0,none⟩=some (.int .i64 o.no) ∧
    w'.cell? ⟨W.heap.size+1,0,none⟩=some (.int .i64 S.line)∧w'.cell? ⟨W.heap.size+1,1,none⟩=some (.int .i64 S.at_)∧w'.cell? ⟨W.heap.size+1,2,none⟩=some (.int .i64 S.arrive)∧w'.cell? ⟨W.heap.size+1,3,none⟩=some (.int .i64 S.leg)∧w'.cell? ⟨W.heap.size+1,4,none⟩=some (.int .i64 S.from_) ∧
    w'.cell? ⟨W.heap.size+1,5,none⟩=some (.int .i64 S.to_)∧w'.cell? ⟨W.heap.size+1,6,none⟩=some (.int .i64 S.many)∧w'.cell? ⟨W.heap.size+1,39,none⟩=some (.int .i64 S.time))):=aab (fun w' b =>
   ⟨by rw [← hR]; exact fF (fun j u hu => by
       have hj:j<32:=(by have:=(aag.1 hu).1;rw [ai,hroot9.1] at this;exact this);exact cS w' b (7+j) u (by rw [hSc.2.2.2.2.2.2.2.1 j hj];exact hu)) hroot9.1,
    (BO12.below b BO12.lt).cell 2,(BO12.below b BO12.lt).cell 0,cS w' b 0 _ hSc.1,cS w' b 1 _ hSc.2.1,cS w' b 2 _ hSc.2.2.1,cS w' b 3 _ hSc.2.2.2.1,cS w' b 4 _ hSc.2.2.2.2.1,cS w' b 5 _ hSc.2.2.2.2.2.1,cS w' b 6 _ hSc.2.2.2.2.2.2.1,cS w' b 39 _ hSc.2.2.2.2.2.2.2.2.1⟩)
  have q6:Calls prog 64 #[.slice (some ⟨w20.heap.size,0,none⟩) 9 9] (w20.alloc (.cells #[.iface 3 (.int .i64 S.line),.iface 3 (.int .i64 S.at_),.iface 3 (.int .i64 S.arrive),.iface 3 (.int .i64 S.leg),.iface 3 (.int .i64 S.from_),.iface 3 (.int .i64 S.to_),.iface 3 (.int .i64 S.many),.iface 29 (.agg R),.iface 3 (.int .i64 S.time)] 20)).drew (kL 1 S.text.length (ag S.text) (w20.alloc (.cells #[.iface 3 (.int .i64 S.line),.iface 3 (.int .i64 S.at_),.iface 3 (.int .i64 S.arrive),.iface 3 (.int .i64 S.leg),.iface 3 (.int .i64 S.from_),.iface 3 (.int .i64 S.to_),.iface 3 (.int .i64 S.many),.iface 29 (.agg R),.iface 3 (.int .i64 S.time)] 20)).drew) :=
   NI (some ⟨w20.heap.size,0,none⟩) 9 9 (WC S) _ (by
    have r:=(Rd.new w20 [.iface 3 (.int .i64 S.line),.iface 3 (.int .i64 S.at_),.iface 3 (.int .i64 S.arrive),.iface 3 (.int .i64 S.leg),.iface 3 (.int .i64 S.from_),.iface 3 (.int .i64 S.to_),.iface 3 (.int .i64 S.many),.iface 29 (.agg R),.iface 3 (.int .i64 S.time)] 20 1 9 _ rfl rfl).below (bDr (aj _));rw [←hR] at r ⊢;exact r) (Vl hok9) (by omega)
  have q10:Hid (∀ w' Ad cd,Below w20.heap.size w20 w'→Rd w' w'.heap.size 1 Ad S.text.length (ag S.text)→(Ad=none→S.text.length=0∧cd=0)→Calls prog 63 #[.slice A o.chain.length c,.int .i64 o.no,.slice Ad S.text.length cd] w' (Le o.chain vs o.no S.text w')):=aab (fun w' Ad cd b h1 h2 =>
   WB A c o.chain vs o.no Ad cd S.text w' ((hA.below (ah hbc12 b)).more (aaj hbc12.size b.size)) hn hcap hnilA h1 h2 (by omega) (hG.below (ah hbc12 b)))
  have hAE:IX o.chain o.no S.text=WE:=by rw [Tu hgood (d:=S.text) (by omega),hwe.out]
  have q11:Hid (∀ w' Ad cd,Below w20.heap.size w20 w'→Rd w' w'.heap.size 1 Ad S.text.length (ag S.text)→(Ad=none→S.text.length=0∧cd=0)→Calls prog 63 #[.slice A o.chain.length c,.int .i64 o.no,.slice Ad S.text.length cd] w' (fun r w''=>∃ Ax nx cx,r = .returned (.tuple #[.slice Ax nx cx,.int .i64 WE])∧Below w'.heap.size w' w'' ∧
    (WE=0→nx=o.chain.length+1∧∃ Ae ce,w''.ownsRow w'.heap.size 85 35 (.slice Ax nx cx) nx (kP o.chain vs++(⟨o.no,(o.chain.length:Int),fV o.chain,S.text⟩:Lnk).cl (.slice Ae S.text.length ce))∧RdT w'' 5 1 Ae S.text.length (ag S.text)))):=aab (fun w' Ad cd b h1 h2=>(q10.out w' Ad cd b h1 h2).mono (fun r w'' hr=>by
   obtain ⟨r1,r2,r3⟩:=hr;rw [hAE] at r2 r3;by_cases h0:WE=0
   ·obtain ⟨v,Ae,ce,e1,e2,e3⟩:=r3 h0
    obtain ⟨Ax,cx,e4,_⟩:=Rd.of_own e2;subst e4;exact ⟨Ax,_,cx,by rw [h0];exact e1,r1,fun _=>⟨rfl,Ae,ce,e2,e3⟩⟩
   ·exact ⟨none,0,0,r2 h0,r1,fun h=>absurd h h0⟩))
  clear cS hSc hroot9 q10 hAE hR;obtain ⟨tl,htl⟩:∃ tl,Hid (S.text.length=tl):=⟨_,aab rfl⟩
  rw [htl.out] at q6 q11;refine aK (f:=41) KS [(0,1),(1,2),(2,1),(3,2),(4,1),(5,1),(6,2),(7,1),(8,1),(9,1),(10,2),(11,1),(12,1),(13,1),(14,2),(15,1),(16,1),(17,2),(18,1),(19,1),(20,2),(21,1),(22,1),(23,2),(24,1),(25,1),(26,2),(27,1),(28,1),(29,2),(30,1),(31,1),(32,2),(33,1),(34,0),(35,0),(36,0),(37,1),(38,1),(39,1),(40,1),(41,3),(42,3)] ?_;simp only [bf,aap,aar];refine ak ?_;refine ax ?_;refine ak ?_;refine ax ?_
  iterate 2 refine ak ?_
  refine ax ?_
  iterate 3 refine ak ?_
  refine ax ?_
  iterate 3 refine ak ?_
  refine ax ?_
  iterate 2 refine ak ?_
  refine ax ?_
  iterate 2 refine ak ?_
  refine ax ?_
  iterate 2 refine ak ?_
  refine ax ?_
  iterate 2 refine ak ?_
  refine ax ?_
  iterate 2 refine ak ?_
  refine ax (v:=?vq1) (hv:=?hq1) ?_;case hq1=>(intro w hSw;(first | refine (af rfl rfl hSw).trans ?_ | refine (af rfl rfl hSw.1).trans ?_ | refine (af rfl rfl hSw.2.1).trans ?_ | refine (af rfl rfl hSw.2.2.1).trans ?_ | refine (af rfl rfl hSw.2).trans ?_ | refine (af rfl rfl hSw.2.2).trans ?_);with_reducible rfl)
  iterate 2 refine ak ?_
  refine ax ?_;refine ak ?_;refine au (fun K hK=>?_);go_simp;(first | (go_at_call 64;(with_reducible refine q6.mono ?_);rintro e w21 ⟨v21,rfl,b21,A21,c21,rfl,R21,_,_,N21⟩;have B21:Below w20.heap.size w20 w21:=ah (bDr (bAl (aj _) _)) b21) | (go_at_call 63;(with_reducible refine (q11.out _ _ _ (by with_reducible assumption) R21 N21).mono ?_);rintro e w22 ⟨Ax,nx,cx,rfl,b22,h22⟩;have B22:Below w20.heap.size w20 w22:=ah B21 b22) | skip);refine aH hK KS ?_;clear hK K;refine au (fun K hK=>?_);go_simp;(first | (go_at_call 64;(with_reducible refine q6.mono ?_);rintro e w21 ⟨v21,rfl,b21,A21,c21,rfl,R21,_,_,N21⟩;have B21:Below w20.heap.size w20 w21:=ah (bDr (bAl (aj _) _)) b21) | (go_at_call 63;(with_reducible refine (q11.out _ _ _ (by with_reducible assumption) R21 N21).mono ?_);rintro e w22 ⟨Ax,nx,cx,rfl,b22,h22⟩;have B22:Below w20.heap.size w20 w22:=ah B21 b22) | skip);refine aH hK KS ?_;clear hK K;refine au (fun K hK=>?_);go_simp;(first | (go_at_call 64;(with_reducible refine q6.mono ?_);rintro e w21 ⟨v21,rfl,b21,A21,c21,rfl,R21,_,_,N21⟩;have B21:Below w20.heap.size w20 w21:=ah (bDr (bAl (aj _) _)) b21) | (go_at_call 63;(with_reducible refine (q11.out _ _ _ (by with_reducible assumption) R21 N21).mono ?_);rintro e w22 ⟨Ax,nx,cx,rfl,b22,h22⟩;have B22:Below w20.heap.size w20 w22:=ah B21 b22) | skip);refine aH hK KS ?_;clear hK K
  iterate 4 refine ak ?_
  refine aN ?_
  first | simp only [aak] | simp only [aat,aak]
  have BO21:=BO12.below B22 BO12.lt;have BX21:=BX12.below B22 BX12.lt;have BE21:=BE12.below B22 BE12.lt;have BJ21:=BJ12.below B22 BJ12.lt;have G121:=G112.below B22 G112.lt;have G221:=G212.below B22 G212.lt;have MT21:=MT12.keep (w':=w22) (fun g T cs _ B=>B.below B22 B.lt);have own21:=aC own12 B22;have hdd21:=(B22.block D (aaI.1 hdd12).1).trans hdd12;have hbc21:=ah hbc12 B22;have hz21:W.heap.size≤w21.heap.size:=aaj hbc12.size B21.size;clear BO12 BX12 BE12 BJ12 G112 G212 MT12 own12 hdd12 hbc12 BH12 KS q11 R21 q6 b21 B21 b22 B22;have x2:w22.cell? ⟨W.heap.size+1+1+1,2,none⟩=some (.slice none 0 0):=BX21.cell 2;have z2:=BX21.frozen 2;have e0:w22.cell? ⟨W.heap.size+1+1+1+1+1,0,none⟩=some (.int .i64 0):=BE21.cell 0;have ze:=BE21.frozen 0;have nxe:W.heap.size+1+1+1≠W.heap.size+1+1+1+1+1:=by omega
  go_wp2_with fail;refine NoPanic.normal ?_;go_upto_region 22 with fail;have BX:=(BX21.set_ 2 (.slice Ax nx cx)).far (p:=⟨W.heap.size+1+1+1+1+1,0,none⟩) nxe (.int .i64 WE);have BE1:=BE21.far (p:=⟨W.heap.size+1+1+1,2,none⟩) nxe.symm (.slice Ax nx cx);have BE:=BE1.set_ 0 (.int .i64 WE);have BJ:=(BJ21.far (p:=⟨W.heap.size+1+1+1,2,none⟩) (by show W.heap.size+1+1+1+1≠W.heap.size+1+1+1;omega) (.slice Ax nx cx)).far (p:=⟨W.heap.size+1+1+1+1+1,0,none⟩) (by show W.heap.size+1+1+1+1≠W.heap.size+1+1+1+1+1;omega) (.int .i64 WE);have G1:=(G121.farTy (i:=2) BX21 (by decide) (.slice Ax nx cx)).farTy (i:=0) BE1 (by decide) (.int .i64 WE);have G2:=(G221.farTy (i:=2) BX21 (by decide) (.slice Ax nx cx)).farTy (i:=0) BE1 (by decide) (.int .i64 WE);have MT:=MT21.keep (fun g T cs hT B=>(B.farTy (i:=2) BX21 (sW hT (by decide) (by decide)) (.slice Ax nx cx)).farTy (i:=0) BE1 (sW hT (by decide) (by decide)) (.int .i64 WE));have hown:((w22.setCell ⟨W.heap.size+1+1+1,2,none⟩ (.slice Ax nx cx)).setCell ⟨W.heap.size+1+1+1+1+1,0,none⟩ (.int .i64 WE)).ownsRow N 29 32 (.slice Av u.length cv) u.length (u.flatMap ag):=dV (dV own21 BX21 (by decide)) BE1 (by decide);have hdd:((w22.setCell ⟨W.heap.size+1+1+1,2,none⟩ (.slice Ax nx cx)).setCell ⟨W.heap.size+1+1+1+1+1,0,none⟩ (.int .i64 WE)).heap[D]?=some (.deferred (some [])):=(Below.heap_setCell _ _ _ _ (by show D≠W.heap.size+1+1+1+1+1;omega)).trans ((Below.heap_setCell _ _ _ _ (by show D≠W.heap.size+1+1+1;omega)).trans hdd21);have hbc:=zQ7 (zQ7 hbc21 (p:=⟨W.heap.size+1+1+1,2,none⟩) (by show W.heap.size≤W.heap.size+1+1+1;omega) (.slice Ax nx cx)) (p:=⟨W.heap.size+1+1+1+1+1,0,none⟩) (by show W.heap.size≤W.heap.size+1+1+1+1+1;omega) (.int .i64 WE)
  have h23:Hid (WE=0→nx=o.chain.length+1∧∃ Ae ce,((w22.setCell ⟨W.heap.size+1+1+1,2,none⟩ (.slice Ax nx cx)).setCell ⟨W.heap.size+1+1+1+1+1,0,none⟩ (.int .i64 WE)).ownsRow W.heap.size 85 35 (.slice Ax nx cx) nx (kP o.chain vs++(⟨o.no,(o.chain.length:Int),fV o.chain,S.text⟩:Lnk).cl (.slice Ae S.text.length ce)) ∧
    RdT ((w22.setCell ⟨W.heap.size+1+1+1,2,none⟩ (.slice Ax nx cx)).setCell ⟨W.heap.size+1+1+1+1+1,0,none⟩ (.int .i64 WE)) 5 1 Ae S.text.length (ag S.text)):=aab (fun h=>by
   rw [htl.out];obtain ⟨e1,Ae,ce,e2,e3⟩:=h22 h;exact ⟨e1,Ae,ce,dV (dV (own_base e2 (by omega)) BX21 (by decide)) BE1 (by decide),e3.keep (fun g cs B=>(B.farTy BX21 (by decide) _).farTy BE1 (by decide) _)⟩)
  clear BX21 BE21 BE1 BJ21 G121 G221 MT21 own21 hdd21 hbc21 x2 z2 e0 ze h22 BO21 hz21;generalize (w22.setCell ⟨W.heap.size+1+1+1,2,none⟩ (.slice Ax nx cx)).setCell ⟨W.heap.size+1+1+1+1+1,0,none⟩ (.int .i64 WE)=w24 at *;have hXo2:∀ v∈(#[.int .i64 o.no,.int .i64 o.secret,.slice Ax nx cx,.slice Av u.length cv]:Array Value).toList,v.oneCell'=true:=og _ _ _ _;obtain ⟨XX,hXX⟩:∃ XX,XX=(#[.int .i64 o.no,.int .i64 o.secret,.slice Ax nx cx,.slice Av u.length cv]:Array Value):=⟨_,rfl⟩
  have hXXz:XX.size=4:=by rw [hXX];rfl
  replace BX:Blk w24 (W.heap.size+1+1+1) 25 XX:=by rw [hXX];exact BX
  rw [←hXX] at hXo2;replace hXX:=aab hXX
  have KS:Hid (∀ w',Below w24.heap.size w24 w'→((Instr.loadAt 49 (.pointer (some ⟨W.heap.size+1+1+1+1,0,none⟩))).run prog w' = .ok (.agg J2) w'∧(Instr.loadAt 25 (.pointer (some ⟨W.heap.size+1+1+1,0,none⟩))).run prog w' = .ok (.agg XX) w'∧w'.cell? ⟨W.heap.size+1+1+1+1+1,0,none⟩=some (.int .i64 WE))):=aab (fun w' b =>
   ⟨bg (BJ.below b BJ.lt) underlying49 rfl (by rw [hJ2z];exact eG),bg (BX.below b BX.lt) underlying25 rfl (by rw [hXXz];exact iM),(BE.below b BE.lt).cell 0⟩)
  have SX:Hid (∀ w',Below w24.heap.size w24 w'→(Instr.storeAt 25 (.pointer (some ⟨W.heap.size+1+1+1,0,none⟩)) (.agg XX)).run prog w' = .ok () w'):=aab (fun w' b=>by
   have B:=BX.below b BX.lt;have h:=aQ (P:=prog) (ty:=25) (X:=XX) B (by rw [hXXz];exact iM) rfl hXo2
   rwa [setRow_self w' _ _ _ (0,0) B] at h)
  have SJ:Hid (∀ w',Below w24.heap.size w24 w'→(Instr.storeAt 49 (.pointer (some ⟨W.heap.size+1+1+1+1,0,none⟩)) (.agg J2)).run prog w' = .ok () w'):=aab (fun w' b=>by
   have B:=BJ.below b BJ.lt;have h:=aQ (P:=prog) (ty:=49) (X:=J2) B (by rw [hJ2z];exact eG) rfl hJ2o.out
   rwa [setRow_self w' _ _ _ (0,0) B] at h)
  have SE:Hid (∀ w',Below w24.heap.size w24 w'→(Instr.storeAt 42 (.pointer (some ⟨W.heap.size+1+1+1+1+1,0,none⟩)) (.int .i64 WE)).run prog w' = .ok () w'):=aab (fun w' b=>by
   have B:=BE.below b BE.lt;have c0:w'.cell? ⟨W.heap.size+1+1+1+1+1,0,none⟩=some (.int .i64 WE):=B.cell 0;have z0:=B.frozen 0;have h:(Instr.storeAt 42 (.pointer (some ⟨W.heap.size+1+1+1+1+1,0,none⟩)) (.int .i64 WE)).run prog w' = .ok () (w'.setCell ⟨W.heap.size+1+1+1+1+1,0,none⟩ (.int .i64 WE)):=by simp [go_sem,c0,z0]
   rwa [Tz B] at h)
  refine fA (g:=0) KS [(0,2),(1,2),(2,2),(3,0),(4,0),(5,0)] ?_;simp only [bf,aap,aar];refine az (v:=?vq2) (hv:=?hq2) ?_;case hq2=>(intro w hSw;(first | refine (af rfl rfl hSw).trans ?_ | refine (af rfl rfl hSw.1).trans ?_ | refine (af rfl rfl hSw.2.1).trans ?_ | refine (af rfl rfl hSw.2.2.1).trans ?_ | refine (af rfl rfl hSw.2).trans ?_ | refine (af rfl rfl hSw.2.2).trans ?_);with_reducible rfl)
  refine az (v:=?vq3) (hv:=?hq3) ?_;case hq3=>(intro w hSw;(first | refine (af rfl rfl hSw).trans ?_ | refine (af rfl rfl hSw.1).trans ?_ | refine (af rfl rfl hSw.2.1).trans ?_ | refine (af rfl rfl hSw.2.2.1).trans ?_ | refine (af rfl rfl hSw.2).trans ?_ | refine (af rfl rfl hSw.2.2).trans ?_);with_reducible rfl)
  refine az ?_;refine bW (fun K hK=>?_)
  first | ((refine bD (by rfl) (by rfl) (by rfl) (by rfl) (SX.out _ (bDr (aj _))) ?_)) | ((refine bD (by rfl) (by rfl) (by rfl) (by rfl) (SJ.out _ (bDr (aj _))) ?_)) | ((refine bD (by rfl) (by rfl) (by rfl) (by rfl) (SE.out _ (bDr (aj _))) ?_)) | (go_simp)
  refine aH hK KS ?_;clear hK K;refine bW (fun K hK=>?_)
  first | ((refine bD (by rfl) (by rfl) (by rfl) (by rfl) (SX.out _ (bDr (aj _))) ?_)) | ((refine bD (by rfl) (by rfl) (by rfl) (by rfl) (SJ.out _ (bDr (aj _))) ?_)) | ((refine bD (by rfl) (by rfl) (by rfl) (by rfl) (SE.out _ (bDr (aj _))) ?_)) | (go_simp)
  refine aH hK KS ?_;clear hK K;refine bW (fun K hK=>?_)
  first | ((refine bD (by rfl) (by rfl) (by rfl) (by rfl) (SX.out _ (bDr (aj _))) ?_)) | ((refine bD (by rfl) (by rfl) (by rfl) (by rfl) (SJ.out _ (bDr (aj _))) ?_)) | ((refine bD (by rfl) (by rfl) (by rfl) (by rfl) (SE.out _ (bDr (aj _))) ?_)) | (go_simp)
  refine aH hK KS ?_;clear hK K;refine jk ?_;refine NoPanic.normal ?_;clear KS SX SJ SE;go_wp2_with fail;have BX25:=(Blk.dr BX).put (o' := .deferred none) (show w24.drew.heap[D]?=some (.deferred (some [])) from hdd) rfl;have BJ25:=(Blk.dr BJ).put (o' := .deferred none) (show w24.drew.heap[D]?=some (.deferred (some [])) from hdd) rfl;have BE25:=(Blk.dr BE).put (o' := .deferred none) (show w24.drew.heap[D]?=some (.deferred (some [])) from hdd) rfl;have hbc25:=uQ (bDr hbc) (aaj hWs hDs) (Obj.deferred none);refine cZ (by simp) (show w24.drew.heap[D]?=some (.deferred (some [])) from hdd) ?_;by_cases h0:WE=0
  rotate_left 1
  ·exact Lp rfl rfl rfl hXXz hJ2z h0 BX25 BJ25 BE25 ⟨below_setRow (below_setRow hbc25 (by omega) _) (by omega) _,fun _=>by rw [hWE],fun h=>absurd (hWE▸h) h0⟩
  rw [h0] at BE25;obtain ⟨hnx,Ae,ce,own1,hD⟩:=h23.out h0;have kp:∀ g T cs,Blk w24 g T cs→Blk (w24.drew.putObj D (.deferred none)) g T cs:=fun g T cs B=>(Blk.dr B).put (show w24.drew.heap[D]?=some (.deferred (some [])) from hdd) rfl;subst hnx
  have hWH:IE o rest h xs t=S:=by
   rw [←hS.out,←hM.out,←hL.out];rfl
  have hno:inI o.no:=by
   unfold Ofc.good at hgood;simp only [aal,decide_eq_true_eq] at hgood
   have:=hgood.1.1
   unfold inI;omega
  have hKo:(⟨o.no,(o.chain.length:Int),fV o.chain,S.text⟩:Lnk).ok:=⟨hno,by show inI (o.chain.length:Int);unfold inI;omega,Tv _,iI _,by show S.text.length≤1000000;omega⟩
  have hWK:zh o rest h xs t=⟨o.no,(o.chain.length:Int),fV o.chain,S.text⟩:=by
   unfold zh;rw [hWH]
  have hWO:oK o rest h xs t=⟨o.no,o.secret,o.chain++[⟨o.no,(o.chain.length:Int),fV o.chain,S.text⟩],u⟩:=by
   unfold oK;rw [hWK,hwu.out];rfl
  have hWJ:lh o rest h xs t=⟨L,Pf,M,S⟩:=by
   unfold lh;rw [hWH,hL.out,hPf.out,hM.out]
  have hb25:=hbc25;have own1:=ownsRow_putObj (W:=w24.drew) own1 (Obj.deferred none) (show w24.drew.heap[D]?=some (.deferred (some [])) from hdd) rfl;have hown:=ownsRow_putObj (W:=w24.drew) hown (Obj.deferred none) (show w24.drew.heap[D]?=some (.deferred (some [])) from hdd) rfl;refine PT rfl rfl rfl hXXz hJ2z BX25 BJ25 BE25 ⟨hbc25,fun h=>absurd (hWE.trans h0) h,fun _=>⟨XX,J2,rfl,fun w2 hk2 hch=>?_⟩⟩;clear BX25 BJ25 BE25 hbc25;have kp2:∀ g T cs,T=63∨T=29∨T=85∨T=5∨T=199→Blk w24 g T cs→Blk w2 g T cs:=fun g T cs hT B=>hk2 g T cs hT (kp g T cs B);have own1':w2.ownsRow W.heap.size 85 35 (.slice Ax (o.chain.length+1) cx) (o.chain.length+1) (kP o.chain vs++(⟨o.no,(o.chain.length:Int),fV o.chain,S.text⟩:Lnk).cl (.slice Ae S.text.length ce)):=IY own1 fun g cs B=>hk2 g _ cs (.inr (.inr (.inl rfl))) B;have own2':w2.ownsRow N 29 32 (.slice Av u.length cv) u.length (u.flatMap ag):=IY hown fun g cs B=>hk2 g _ cs (.inr (.inl rfl)) B;have hD':=hD.keep (fun g cs B=>kp2 g _ cs (.inr (.inr (.inr (.inl rfl)))) B);have MT':=MT.keep (fun g T cs hT B=>kp2 g T cs (hT.imp_right .inl) B);have G1':=kp2 _ _ _ (.inl rfl) G1;have G2':=kp2 _ _ _ (.inr (.inr (.inr (.inr rfl)))) G2
  have hA2:LksAt w2 w2.heap.size A o.chain vs:=by
   rcases hch with hch | hch
   ·refine ⟨⟨by rw [hch];rfl,fun h=>absurd h (by rw [hch];simp)⟩,hA.2.1,fun k x hx=>by rw [hch] at hx;simp at hx,hA.2.2.2⟩
   ·exact (hA.below hch).more hch.size
  have hOf:=OfAt.of_rows (o':=oK o rest h xs t) hA2 (by rw [hWO]) hKo own1' hD' (by rw [hWO];exact own2') (by rw [hWO];exact hu2);refine ⟨?_,?_⟩
  ·rw [hWO] at hOf ⊢
   rw [hXX.out];exact hOf
  ·rw [hWJ]
   refine ⟨some ⟨g1,0,none⟩,some ⟨g2,0,none⟩,xs.length,xs.length,ms,?_,?_,?_,⟨?_,MT'.t1.rd,MT'.t2.rd,MT'.t3.rd,MT'.t4.rd,hd34.out.1,hd34.out.2⟩,hok9⟩
   ·rw [←hJ2.out]
    unfold sQ;rw [hms0.out,hmsc.out,hMi.out,hLl,hPl]
   ·show Rd _ _ 6 _ L.length (L.flatMap Ltr.cl)
    exact (RdT.of_blk G1' (xB L)).rd
   ·show Rd _ _ 6 _ Pf.length (Pf.flatMap Ltr.cl)
    exact (RdT.of_blk G2' (xB Pf)).rd
   ·rw [hms0.out,hMi.out]
    exact (RdT.of_blk G1' (xB L)).rd
end
section
open Go.RowKit
theorem NY (a b c d e f:Int) (w:World):(Op.equalIn 10000 95 (.agg #[.int .i64 a,.int .i64 b,.int .i64 c]) (.agg #[.int .i64 d,.int .i64 e,.int .i64 f])).run prog w = .ok (a==d&&(b==e&&c==f)) w:=by
 have u3:=underlying3;have a3:=isAgg3;have z3:=sizeOf3;rw [show (10000:Nat)=9999+1 from rfl,Op.equalIn];simp only [Sem.run_bind,run_underlying underlying95,Result.andThen_ok];simp only [Std.Legacy.Range.forIn_eq_forIn_range',Std.Legacy.Range.size,Nat.sub_zero,Nat.add_sub_cancel,Nat.div_one,List.range'_succ,List.range'_zero,List.forIn_cons,List.forIn_nil];have e1:=fun (x y:Int)=>run_equalIn_int w 9998 3 .i64 .i64 x y underlying3;go_simp;by_cases h1:a=d <;> by_cases h2:b=e <;> by_cases h3:c=f <;> simp [h1,h2,h3]
def Wd.eqB (v u:Wd):Bool:=v.x==u.x&&(v.y==u.y&&v.z==u.z)
theorem Wd.eqB_iff {v u:Wd} : v.eqB u=true↔v=u:=by
 obtain ⟨a,b,c⟩:=v;obtain ⟨d,e,f⟩:=u;simp [Wd.eqB]
end
end Go.Proofs.YthbibbkbaphpkaaGreatDoor

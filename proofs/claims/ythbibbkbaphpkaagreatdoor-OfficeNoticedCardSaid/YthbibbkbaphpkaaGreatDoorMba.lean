/- The reference's digest: Sum; walked. -/
import Derived.Test.YthbibbkbaphpkaaGreatDoorMaz
set_option maxHeartbeats 16000000
set_option maxRecDepth 1000000
namespace Go.Proofs.YthbibbkbaphpkaaGreatDoor
open _root_.Go.Proofs.Tryz
section
open Go.RowKit
theorem LV (l:List Nat):(l++qU l.length).length=64 * ((l.length+72) / 64):=by
 rw [aan,Qs];omega
theorem Jk:∀ (l:List Nat) (i j x:Nat),l[i]?=some x→j<4→(l.flatMap fun v=>bJ v 4)[4*i+j]?=(bJ x 4)[j]?
 | [],i,j,x,h,_=>by simp at h
 | y::l,0,j,x,h,hj=>by
  simp only [aap,Option.some.injEq] at h;subst h;rw [aaF,Nat.mul_zero,aax,aaO (by rw [iw];exact hj)]
 | y::l,i+1,j,x,h,hj=>by
  simp only [aar] at h;rw [aaF,aaz (by rw [iw];omega),iw]
  have:4 * (i+1)+j - 4=4*i+j:=by omega
  rw [this];exact Jk l i j x h hj
theorem bytes4 (x:Nat):bJ x 4=[x / 16777216 % 256,x / 65536 % 256,x / 256 % 256,x % 256]:=by
 show [x / 256 / 256 / 256 % 256,x / 256 / 256 % 256,x / 256 % 256,x % 256]=_;simp only [Nat.div_div_eq_div_mul]
theorem Ub {X:List Nat} {k y:Nat} {Y:Int} (h:X[k]?=some y) (hk:k<32) (hY:Y=(y:Nat)) :
  (ag (X.take k++aF (32 - k))).toArray.setIfInBounds k (.int .u8 Y)=(ag (X.take (k+1)++aF (32 - (k+1)))).toArray:=by
 subst hY;obtain ⟨hl,rfl⟩:=aag.1 h;rw [aaf];congr 1;have e:32 - k=(32 - (k+1))+1:=by omega
 have hlen:(X.take k).length=k:=by rw [aav];omega
 rw [aaB hl,e];unfold ag aF;rw [List.replicate_succ,aaT,aaT,aaT,abw _ _ (by rw [aaQ,hlen];exact aad _),aaQ,hlen,Nat.sub_self]
 simp
theorem Blk.setByte {w:World} {g k y:Nat} {t:TypeId} {X:List Nat} {Y:Int} (h:Blk w g t (ag (X.take k++aF (32 - k))).toArray) (hy:X[k]?=some y) (hk:k<32) (hY:Y=(y:Nat)) :
  Blk (w.setCell ⟨g,k,none⟩ (.int .u8 Y)) g t (ag (X.take (k+1)++aF (32 - (k+1)))).toArray:=by
 rw [←Ub hy hk hY];exact h.set_ k _
theorem N7 (A:Option Addr) (n c:Nat) (l:List Nat) (W:World) (hA:Rd W W.heap.size 1 A n (ag l)) (hnil:A=none→n=0∧c=0) (ho:okB l) (hn:n≤70368744177700) :
  Calls prog 189 #[.slice A n c] W (Ret (dig (bM l)) W):=by
 obtain rfl:l.length=n:=by have:=hA.1;rw [ai,aaA] at this;exact this
 have hPB:=aab (LV l);have HS:Hid (bM l=(bH iq (l++qU l.length) ((l.length+72) / 64)).list.flatMap fun v=>bJ v 4):=aab rfl;obtain ⟨M,hM⟩:∃ M,Hid (M=(l.length+72) / 64):=⟨_,aab rfl⟩
 rw [←hM.out] at HS hPB;have hMl:M≤70368744177800:=by rw [hM.out];omega
 have q1:=fun w (h:Below W.heap.size W w)=>LU A l.length c l w ((hA.below h).more h.size) hnil hn;have hoP:okB (l++qU l.length):=mP ho (EN _);generalize l++qU l.length=P at *;obtain ⟨n2,hn2⟩:∃ n2,Hid (n2=P.length):=⟨_,aab rfl⟩
 rw [←hn2.out] at hPB q1;generalize bM l=X at *;go_enter func189,ntmps189;go_upto_region 2 with fail;change Code.wp _ _ _ _ ((W.alloc (.cells (ag (aF 32)).toArray 29)).alloc (.cells (bY iq.list).toArray 267));have BD:=(Blk.new W 29 (ag (aF 32)).toArray _ rfl).alloc (.cells (bY iq.list).toArray 267);have BS:=Blk.new (W.alloc (.cells (ag (aF 32)).toArray 29)) 267 (bY iq.list).toArray (W.heap.size+1) (by simp);have hb:=bAl (bAl (aj W) (.cells (ag (aF 32)).toArray 29)) (.cells (bY iq.list).toArray 267);generalize (W.alloc (.cells (ag (aF 32)).toArray 29)).alloc (.cells (bY iq.list).toArray 267)=w1 at *;have q2:=q1 w1 hb;go_wp2_with fail;refine q2.mono ?_;rintro e w2 ⟨v2,rfl,b2,hown⟩;obtain ⟨A2,c2,hv2,-⟩:=Sl.of_own hown;subst hv2;have hw1:W.heap.size+1<w1.heap.size:=BS.lt;have hb2:=ah hb b2;have BD2:=BD.below b2 BD.lt;have BS2:=BS.below b2 BS.lt;clear q1 q2 hb BD BS b2;go_wp2_with fail;go_loopw [5] (fun i wr=>∃ j q:Nat,j≤M∧Hid (q=64*j)∧q≤n2∧i = .int .i64 q∧Below W.heap.size W wr∧wr.ownsRow w1.heap.size 5 1 (.slice A2 n2 c2) n2 (ag P)∧Blk wr W.heap.size 29 (ag (aF 32)).toArray∧Blk wr (W.heap.size+1) 267 (bY (bH iq P j).list).toArray) (fun i _=>n2 - (intOf i).toNat)
 case atStart=>exact ⟨0,0,aao _,aab rfl,aao _,rfl,hb2,hown,BD2,BS2⟩
 case round =>
  clear hb2 BD2 BS2 hown;obtain ⟨j,q,hj,hq,hqn,rfl,hb,hown,BD,BS⟩:=hrel;obtain ⟨_,_,hv2,hR,hc2,hc3,_⟩:=Sl.of_own hown;injection hv2 with e1 _ e3
  subst e1;subst e3;by_cases hlt:q<n2
  ·have hq64:q+64≤n2:=by have:=hPB.out;have:=hq.out;omega
   have hqc:q<c2:=(by omega);have hjM:j<M:=(by have:=hPB.out;have:=hq.out;omega);obtain ⟨b,off,rfl,hbb,hcc⟩:=hR.2 (by omega);have sok:(bH iq P j).ok:=iU vK j;have hnx:Hid (bH iq P (j+1)=jr (bH iq P j) ((P.drop q).take 64)):=by show _=_;rw [hq.out];rfl
   have hR2:Rd wr wr.heap.size 1 (some ⟨b,off+q,none⟩) 64 (ag ((P.drop q).take 64)):=by
    refine ⟨by rw [ai,aav,aa1,←hn2.out];omega,fun _=>⟨b,off+q,rfl,hbb,fun i u hu=>?_⟩⟩
    have hi:i<64:=by
     have:=(aag.1 hu).1
     rw [ai,aav] at this;omega
    rw [aay];refine hcc _ _ ?_;unfold ag at hu ⊢;rw [aaD] at hu ⊢;rw [aa6,if_pos hi,List.getElem?_drop] at hu;exact hu
   have hoB:okB ((P.drop q).take 64):=vO (kQ hoP q) 64;generalize (P.drop q).take 64=Bl at *;generalize bH iq P j=s at *;obtain ⟨s2,hs2⟩:∃ s2,Hid (s2=jr s Bl):=⟨_,aab rfl⟩
   obtain ⟨q0,q1,q2,q3,q4,q5,q6,q7⟩:=kR BS;have KS:Hid (∀ w',Below wr.heap.size wr w'→_):=aab (fun w' h=>kR (BS.below h BS.lt));have qb:=PZ s b (off+q) (c2 - q) Bl wr.drew sok hR2 hoB (by omega) (by omega);rw [←hs2.out] at qb;have fw:IntKind.i64.wrap ((q:Int)+64)=(q:Int)+64:=(by rw [IntKind.wrap_i64];omega);have ft:((q:Int)+64).toNat=q+64:=(by omega);have f1:(q:Int)+64≤(c2:Int):=(by omega);have f0:(0:Int)≤(q:Int)+64:=(by omega);have fq:¬(c2=q):=(by omega);have fs:q+64 - q=64:=(by omega);have fl:q≤q+64:=(by omega);go_upto_region 6 with fail;refine aK (f:=7) KS [(0,2),(1,1),(2,1),(3,1),(4,1),(5,1),(6,0),(7,3)] ?_;simp only [bf,aap,aar];refine ax ?_
   iterate 5 refine ak ?_
   refine au (fun K hK=>?_);go_simp;(first | (go_at_call 238;(with_reducible refine qb.mono ?_);rintro e w9 ⟨rfl,b9⟩;have B7:Below wr.heap.size wr w9:=ah (bDr (aj _)) b9) | skip);refine aH hK KS ?_;clear hK K;refine aN ?_
   first | simp only [aak] | simp only [aat,aak]
   have BD9:=BD.below B7 BD.lt;have BS9:=BS.below B7 BS.lt;have hb9:=ah hb B7;have hown9:=Dj (aC hown B7) hw1 (bY s2.list).toArray;clear KS q0 q1 q2 q3 q4 q5 q6 q7 BD BS hb B7 qb hR2 hown hR;have hX1:=xI s2.list;refine aG (v := .agg (bY s2.list).toArray) (by rfl) (by rfl) (by rfl) (by rfl) (aQ BS9 (by exact (by kernel_rfl:(prog.info? 267).map (·.size)=some 8)) (by rw [aae,aae,lV,lV];rfl) hX1) ?_;simp only [Act.put];have BR:=BS9.row (bY s2.list).toArray;have BD2:=BD9.farRow (show W.heap.size≠W.heap.size+1 by omega) (bY s2.list).toArray;have hbS:=below_setRow hb9 (show W.heap.size≤W.heap.size+1 by omega) (bY s2.list).toArray;generalize w9.setRow (W.heap.size+1) (bY s2.list).toArray=w5 at *;go_wp2_with fail;refine NoPanic.normal ?_;go_wp2_with fail;exact ⟨⟨j+1,q+64,by omega,aab (by have:=hq.out;omega),hq64,by go_num,hbS,hown9,BD2,by rw [hnx.out,←hs2.out];exact BR⟩,by simp [intOf];omega⟩
  ·have hj2:j=M:=by have:=hPB.out;have:=hq.out;omega
   rw [hj2] at BS;have sok:(bH iq P M).ok:=iU vK M;clear hj2 hj hq hqn hown hR;generalize bH iq P M=s at *;have HX:=HS.out;have hXl:Hid (X.length=32):=(by show _=_;rw [HX,pq];rfl);have hXo:okB X:=(by rw [HX];intro y hy;obtain ⟨v,_,hv⟩:=List.mem_flatMap.1 hy;exact tC v 4 y hv);have hsl:s.list.length=8:=rfl
   have hslt:∀ x∈s.list,x<4294967296:=by
    obtain ⟨o0,o1,o2,o3,o4,o5,o6,o7⟩:=sok;intro x hx;simp only [S8.list,aaq,aaw,or_false] at hx;rcases hx with rfl | rfl | rfl | rfl | rfl | rfl | rfl | rfl <;> assumption
   have HX2:=aab HX;have Hsl:=aab hsl;clear HX HS hsl;go_upto_region 7 with fail;apply wp_region_lit
   iterate 6 go_step
   refine aG (v := .agg (ag (aF 32)).toArray) (by rfl) (by rfl) (by rfl) (by rfl) (bP (by exact aW) (by rfl) (aZ (l:=aF 32))) ?_;simp only [Act.put];have BX:=Blk.new wr 29 (ag (aF 32)).toArray _ rfl;have BD1:=BD.alloc (.cells (ag (aF 32)).toArray 29);have BS1:=BS.alloc (.cells (ag (aF 32)).toArray 29);have hb1:=bAl hb (.cells (ag (aF 32)).toArray 29);have hg1:W.heap.size+1<wr.heap.size:=BS.lt;clear BD BS hb;generalize wr.alloc (.cells (ag (aF 32)).toArray 29)=w5 at *;generalize wr.heap.size=g at *;go_wp2_with fail;go_loopw [7] (fun i wr=>∃ k:Nat,k≤32∧i = .int .i64 k∧Below W.heap.size W wr∧Blk wr W.heap.size 29 (ag (aF 32)).toArray∧Blk wr (W.heap.size+1) 267 (bY s.list).toArray∧Blk wr g 29 (ag (X.take k++aF (32 - k))).toArray) (fun i _=>32 - (intOf i).toNat)
   case atStart=>exact ⟨0,aao _,rfl,hb1,BD1,BS1,BX⟩
   case round =>
    clear hb1 BD1 BS1 BX hlt;obtain ⟨k,hk,rfl,hb,BD,BS,BX⟩:=hrel;by_cases hlt:k<32
    ·obtain ⟨Q,R,hQ,hR4,hQ8⟩:∃ Q R,k=4*Q+R∧R<4∧Q<8:=⟨k / 4,k % 4,by omega,by omega,by omega⟩
     obtain ⟨x,hx⟩:∃ x,Hid (s.list[Q]?=some x):=⟨_,aab (aac (by rw [Hsl.out];exact hQ8))⟩
     have hx4:=hslt x (aam hx.out);have hxk:Hid (X[k]?=(bJ x 4)[R]?):=(by show _=_;rw [HX2.out,hQ];exact Jk _ _ _ _ hx.out hR4);have c0:wr.cell? ⟨W.heap.size+1,Q,none⟩=some (.int .u32 x):=(by rw [BS.cell];simpa using zT hx.out);have z0:=BX.frozen k;obtain ⟨y0,hy0⟩:∃ y,wr.cell? ⟨g,k,none⟩=some y:=⟨_,(BX.cell k).trans (abd (by rw [aae,ai,aan,aav,eH,hXl.out];omega))⟩
     have e1:(k:Int) / 4=(Q:Int):=(by omega);have e2:(Q:Int)<8:=(by omega);have e3:(k:Int)<32:=(by omega);have hr4:R=0∨R=1∨R=2∨R=3:=(by omega);rw [bytes4] at hxk;rcases hr4 with rfl | rfl | rfl | rfl
     ·have e4:(k:Int) % 4=0:=by omega
      have hy:X[k]?=some (x / 16777216 % 256):=hxk.out;have HY:=aab hy;clear hQ hxk hy;go_wp2_with fail;refine ⟨⟨k+1,by omega,by go_num,bF hb (by show W.heap.size≤g;omega) _,BD.far (by show W.heap.size≠g;omega) _,BS.far (by show W.heap.size+1≠g;omega) _,?_⟩,by simp [intOf];omega⟩;exact BX.setByte HY.out hlt (by omega)
     ·have e4:(k:Int) % 4=1:=by omega
      have hy:X[k]?=some (x / 65536 % 256):=hxk.out;have HY:=aab hy;clear hQ hxk hy;go_wp2_with fail;refine ⟨⟨k+1,by omega,by go_num,bF hb (by show W.heap.size≤g;omega) _,BD.far (by show W.heap.size≠g;omega) _,BS.far (by show W.heap.size+1≠g;omega) _,?_⟩,by simp [intOf];omega⟩;exact BX.setByte HY.out hlt (by omega)
     ·have e4:(k:Int) % 4=2:=by omega
      have hy:X[k]?=some (x / 256 % 256):=hxk.out;have HY:=aab hy;clear hQ hxk hy;go_wp2_with fail;refine ⟨⟨k+1,by omega,by go_num,bF hb (by show W.heap.size≤g;omega) _,BD.far (by show W.heap.size≠g;omega) _,BS.far (by show W.heap.size+1≠g;omega) _,?_⟩,by simp [intOf];omega⟩;exact BX.setByte HY.out hlt (by omega)
     ·have e4:(k:Int) % 4=3:=by omega
      have hy:X[k]?=some (x % 256):=hxk.out;have HY:=aab hy;clear hQ hxk hy;go_wp2_with fail;refine ⟨⟨k+1,by omega,by go_num,bF hb (by show W.heap.size≤g;omega) _,BD.far (by show W.heap.size≠g;omega) _,BS.far (by show W.heap.size+1≠g;omega) _,?_⟩,by simp [intOf];omega⟩;exact BX.setByte HY.out hlt (by omega)
    ·have hk32:k=32:=by omega
     have BX2:Blk wr g 29 (ag X).toArray:=by
      rw [hk32,aaH (by rw [hXl.out];exact aad _)] at BX;simpa [aF] using BX
     have hXs:(ag X).toArray.size=32:=(by rw [aae,ai,hXl.out]);clear hk32 BX;go_upto_region 12 with fail;apply wp_region_lit;refine wpList_load_row rfl 29 (.tmp 6) rfl g rfl 29 (ag X).toArray (0,0) _ BX2 bQ rfl (by rw [hXs];exact aW) ?_;refine wpList_store_row rfl 29 (.tmp 2) (.tmp 41) rfl W.heap.size (ag X).toArray rfl rfl 29 _ BD (by rw [hXs];exact aW) (by rw [hXs];rfl) (fK _) ?_;have hb9:=below_setRow hb (aad _) (ag X).toArray;have BD9:Blk (wr.setRow W.heap.size (ag X).toArray) W.heap.size 29 (ag X).toArray:=setRow_heap wr W.heap.size _ _ 29 _ BD;go_wp2_with fail;exact bodyPost_ret (v := .agg (ag X).toArray) (results_cell_row rfl _ _ W.heap.size 29 _ (0,0) _ rfl BD9 bQ rfl (by rw [hXs];exact aW)) rfl ⟨rfl,hb9⟩
theorem Sl.of_byts {w:World} {g:Nat} {t:TypeId} {l:List Nat} (h:Blk w g t (ag l).toArray):Rd w w.heap.size 1 (some ⟨g,0,none⟩) l.length (ag l) :=
 ⟨by rw [ai,aaA],fun _=>⟨g,0,rfl,h.lt,fun j u hu=>by rw [aax,h.cell];simpa using hu⟩⟩
theorem LW (s:ByteArray) (A:Option Addr) (n c:Nat) (l:List Nat) (W:World) (hA:Rd W W.heap.size 1 A n (ag l)) (hnil:A=none→n=0∧c=0) (ho:okB l) (hs:s.size≤1000000) (hn:n≤70368744177600) :
  Calls prog 108 #[.string s,.slice A n c] W (Ret (dig (dP (sb s) l)) W):=by
 obtain rfl:l.length=n:=by have:=hA.1;rw [ai,aaA] at this;exact this
 go_enter func108,ntmps108;have hcv:=fun (w:World)=>Lib.run_convert_string_bytes (P:=prog) w 9 83 5 s underlying9 underlying83 underlying5;go_upto_region 1 with fail;change Code.wp _ _ _ _ (W.alloc (.cells (ag (aF 32)).toArray 29));have BD:=Blk.new W 29 (ag (aF 32)).toArray _ rfl;have hb:=bAl (aj W) (.cells (ag (aF 32)).toArray 29);generalize W.alloc (.cells (ag (aF 32)).toArray 29)=w1 at *;go_wp2_with fail;refine (N7 _ _ _ (sb s) _ (by exact Az w1 _ s _ rfl) (by intro h;cases h) (MG s) (by omega)).mono ?_;rintro e w2 ⟨rfl,b2⟩;have hbB:=ah hb (jD w1 5 s);have hb2:=ah hbB b2;have BD2:Blk w2 W.heap.size 29 (ag (aF 32)).toArray:=(BD.below (jD w1 5 s) BD.lt).below b2 (by rw [Lib.bytesWorld_size];have:=BD.lt;omega);clear b2 hbB BD hb hcv;unfold dig;have st1:=ny (bM (sb s)) (bI _);have ln1:(ag (bM (sb s))).length=32:=by rw [ai,bI]
 go_upto_region 2 with fail;have BT:=Blk.new w2 29 (ag (bM (sb s))).toArray _ rfl;have hb3:=bAl hb2 (.cells (ag (bM (sb s))).toArray 29);have BD3:=BD2.alloc (.cells (ag (bM (sb s))).toArray 29);have hlt:W.heap.size<w2.heap.size:=BD2.lt;clear hb2 BD2 st1 ln1;generalize w2.alloc (.cells (ag (bM (sb s))).toArray 29)=w3 at *;generalize w2.heap.size=bt at *;have hTs:=bI (sb s);have hTo:=kE (sb s);have hT:Hid (dP (sb s) l=bM (bM (sb s)++l)):=aab rfl;generalize bM (sb s)=T at *;have HTs:=aab hTs;have hown0:=World.ownsRow_lit (base:=W.heap.size+1) (e:=5) (size:=1) w3 #[] 0 (aaj hlt (Nat.le_of_lt BT.lt)) (by unfold maxLen;omega) rfl;have hb4:=bAl hb3 (.cells #[] 5);have BD4:=BD3.alloc (.cells #[] 5);have hR4:Rd (w3.alloc (.cells #[] 5)) (w3.alloc (.cells #[] 5)).heap.size 1 (some ⟨bt,0,none⟩) 32 (ag T):=by have:=Sl.of_byts (BT.alloc (.cells #[] 5));rwa [hTs] at this
 have hone:=aZ (l:=T);have hone2:=aZ (l:=l);have hs4:W.heap.size+1≤(w3.alloc (.cells #[] 5)).heap.size:=BD4.lt;clear hTs hb3 BD3 BT
 go_wp2_with (at_builtin;first
  | (refine bT (.tmp 9) (.tmp 10) 83 (W.heap.size+1) 5 (.int .u8 0) 1 1 _ 0 _ (some ⟨bt,0,none⟩) 32 32 (w3.alloc (.cells #[] 5)).heap.size (ag T) rfl rfl underlying83 bG rfl (by omega) rfl hown0 rfl hR4 (by intro h;cases h) hone (by unfold maxLen;omega) (by omega) hs4 ?_;intro v5 w5 hown5 hg5;have b5:=hg5.below hown0 hs4;have hb5:=hb4.trans (b5.mono (by omega));have BD5:=BD4.below b5 (by omega);have hA5:=hA.below hb5;have hs5:W.heap.size+1≤w5.heap.size:=aaj hs4 hg5.size)
  | (refine bT (.tmp 11) (.tmp 12) 83 (W.heap.size+1) 5 (.int .u8 0) 1 1 v5 (0+32) _ A l.length c W.heap.size (ag l) rfl rfl underlying83 bG rfl (by omega) rfl hown5 rfl hA5 hnil hone2 (by unfold maxLen;omega) (by omega) hs5 ?_;intro v6 w6 hown6 hg6;have b6:=hg6.below hown5 hs5;have hb6:=hb5.trans (b6.mono (by omega));have BD6:=BD5.below b6 (by omega);obtain ⟨A6,c6,hv6,hR6,hc6,hc62,hn6⟩:=Sl.of_own hown6;subst hv6))
 obtain ⟨X,hX⟩:∃ X,Hid (X=T++l):=⟨_,aab rfl⟩
 have hXl:Hid (X.length=0+32+l.length):=by show _=_;rw [hX.out,aan,HTs.out]
 have hR7:Rd w6 w6.heap.size 1 A6 (0+32+l.length) (ag X):=by
  have e:ag X=[]++ag T++ag l:=by rw [hX.out];simp [ag]
  rw [e];exact hR6
 have q:=N7 A6 _ c6 X w6 hR7 hn6 (by rw [hX.out];exact mP hTo ho) (by omega);rw [←hX.out] at hT;clear hR6 hR7 hown6 hown5 hown0 hg6 hg5 BD5 BD4 b5 b6 hb5 hb4 hA5 hs5 hs4 hn6 hR4;refine q.mono ?_;rintro e w7 ⟨rfl,b7⟩;have hb7:=ah hb6 b7;have BD7:=BD6.below b7 BD6.lt;clear q;dsimp only
 (refine ‹∀ (a:Act) (w:World),wpList _ _ _ _ a w→_› _ _ ?_)
 refine wpList_store_row rfl 29 (.tmp 4) (.tmp 14) rfl W.heap.size (ag (bM X)).toArray rfl rfl 29 _ BD7 (by rw [aae,ai,bI];exact aW) (by rw [aae,aae,ai,ai,bI];rfl) (fK _) ?_;have hb9:=below_setRow hb7 (aad _) (ag (bM X)).toArray;have BD9:Blk (w7.setRow W.heap.size (ag (bM X)).toArray) W.heap.size 29 (ag (bM X)).toArray:=setRow_heap w7 W.heap.size _ _ 29 _ BD7;go_wp2_with fail;exact bodyPost_ret (v:=dig (bM X)) (results_cell_row rfl _ _ W.heap.size 29 _ (0,0) _ rfl BD9 bQ rfl (by rw [aae,ai,bI];exact aW)) rfl ⟨by unfold dig;rw [hT.out],hb9⟩
end
section
open Go Go.RowKit
theorem nH (x:Int) (W:World):Calls prog 261 #[.int .i64 x] W (Ret (.agg #[.int .i64 1,.int .i64 x,.string ⟨#[]⟩,.slice none 0 0]) W):=by
 go_enter func261,ntmps261;go_upto_region 1 with fail;apply wp_region_lit
 iterate 6 go_step
 refine aG (by rfl) (by rfl) (by rfl) (by rfl) (bP (X:=#[.int .i64 1,.int .i64 x,.string ⟨#[]⟩,.slice none 0 0]) fZ rfl (og _ _ _ _)) ?_;simp only [Act.put];have BX:=Blk.new W 169 #[.int .i64 1,.int .i64 x,.string ⟨#[]⟩,.slice none 0 0] _ rfl;have hb:=bAl (aj W) (.cells #[.int .i64 1,.int .i64 x,.string ⟨#[]⟩,.slice none 0 0] 169);generalize W.alloc (.cells #[.int .i64 1,.int .i64 x,.string ⟨#[]⟩,.slice none 0 0] 169)=w2 at *;go_wp2_with fail;exact bodyPost_ret (v := .agg #[.int .i64 1,.int .i64 x,.string ⟨#[]⟩,.slice none 0 0]) (results_cell_row rfl _ _ W.heap.size 169 _ (0,0) _ rfl BX underlying169 rfl fZ) rfl ⟨rfl,hb⟩
theorem N8 (A:Option Addr) (n c:Nat) (d:List Nat) (W:World) (hA:Rd W W.heap.size 1 A d.length (ag d)) (hn:d.length=n) (ho:okB d):Calls prog 262 #[.slice A n c] W (Ret (.agg #[.int .i64 2,.int .i64 0,.string (fQ d),.slice none 0 0]) W):=by
 have cv:=zg (c:=c) (hA.alloc (aad _) (.cells #[.int .i64 0,.int .i64 0,.string ⟨#[]⟩,.slice none 0 0] 169)) hn ho;go_enter func262,ntmps262;go_upto_region 1 with fail;apply wp_region_lit
 iterate 9 go_step
 refine aG (by rfl) (by rfl) (by rfl) (by rfl) (bP (X:=#[.int .i64 2,.int .i64 0,.string (fQ d),.slice none 0 0]) fZ rfl (og _ _ _ _)) ?_;simp only [Act.put];have BX:=Blk.new W 169 #[.int .i64 2,.int .i64 0,.string (fQ d),.slice none 0 0] _ rfl;have hb:=bAl (aj W) (.cells #[.int .i64 2,.int .i64 0,.string (fQ d),.slice none 0 0] 169);generalize W.alloc (.cells #[.int .i64 2,.int .i64 0,.string (fQ d),.slice none 0 0] 169)=w2 at *;go_wp2_with fail;exact bodyPost_ret (v := .agg #[.int .i64 2,.int .i64 0,.string (fQ d),.slice none 0 0]) (results_cell_row rfl _ _ W.heap.size 169 _ (0,0) _ rfl BX underlying169 rfl fZ) rfl ⟨rfl,hb⟩
def ig (l:List Lnk):ByteArray×List Nat:=match l.getLast? with
 | none=>(uA,[])
 | some x=>(rG,bZ x.its)
theorem P6 (l:List Lnk):fV l=dP (sb (ig l).1) (ig l).2:=by
 unfold fV ig;cases l.getLast? <;> rfl
theorem Vz:(prog.info? 5).map (fun i=>(i.zero,i.size,i.bytes))=some (some (.int .u8 0),1,1):=by kernel_rfl
theorem Dk {d:List Nat} {k a:Nat} (h:d[k]?=some a):ag (d.take k)++[Value.int .u8 (a:Nat)]=ag (d.take (k+1)):=by
 obtain ⟨h1,h2⟩:=aag.1 h;rw [aaB h1,h2];simp [ag]
theorem VA (A:Option Addr) (c:Nat) (l:List Lnk) (vs:List Value) (W:World) (hA:LksAt W W.heap.size A l vs) (hn:l.length≤1000000) :
  Calls prog 221 #[.slice A l.length c] W (fun r w'=>∃ v,r = .returned (.tuple #[.string (ig l).1,v])∧Below W.heap.size W w'∧Sl w' w'.heap.size 1 v (ig l).2.length (ag (ig l).2)):=by
 go_enter func221,ntmps221;by_cases h0:l.length=0
 ·have hX:Hid (ig l=(uA,[])):=by
   show _=_;rw [abo.1 h0];rfl
  have e0:(l.length:Int)=0:=by omega
  go_wp2_with fail;go_ret2;rw [hX.out];exact ⟨_,rfl,aj W,Sl.nil_⟩
 ·obtain ⟨k,hk⟩:∃ k,l.length=k+1:=⟨l.length - 1,by omega⟩
  obtain ⟨x,hx⟩:∃ x,l[k]?=some x:=⟨_,aac (by omega)⟩
  obtain ⟨b,off,Ad,cd,rfl,hbb,hxo,hRd,hrg⟩:=hA.at_ hx
  have hX:Hid (ig l=(rG,bZ x.its)):=by
   show _=_;unfold ig
   have:l.getLast?=some x:=by rw [List.getLast?_eq_getElem?,hk];exact hx
   rw [this]
  have e0:((l.length:Int)==0)=false:=by rw [beq_eq_false_iff_ne];omega
  have e1:(l.length:Int) - 1=(k:Int):=by omega
  have ew:wrap64 (k:Int)=(k:Int):=by unfold wrap64;omega
  have i0:(0:Int)≤(k:Int):=by omega
  have i1:(k:Int)<(l.length:Int):=by omega
  have hxl:=Lnk.cl_length (v := .slice Ad x.data.length cd) hxo;have l0:=run_loadAt_mid (P:=prog) W b (off+k*35) 85 (x.cl (.slice Ad x.data.length cd)) _ hrg underlying85 rfl (by rw [hxl];exact gu);have hone:∀ v∈(x.cl (.slice Ad x.data.length cd)).toArray.toList,v.oneCell'=true:=by simpa using Lnk.one x _ rfl
  have hsz:(x.cl (.slice Ad x.data.length cd)).toArray.size=35:=by simpa using hxl
  obtain ⟨Y,hY⟩:∃ Y,(x.cl (.slice Ad x.data.length cd)).toArray=Y:=⟨_,rfl⟩
  rw [hY] at l0 hone hsz;replace hk:=aab hk;go_upto_region 3 with fail;apply wp_region_lit
  iterate 15 go_step
  refine aP (by rfl) (by rfl) (by rfl) l0 ?_;simp only [Act.put,aaf,aai,aah]
  iterate 3 go_step
  refine aG (by rfl) (by rfl) (by rfl) (by rfl) (bP (X:=Y) (by rw [hsz];exact gu) (by rw [hsz];rfl) hone) ?_;simp only [Act.put];have BY:=Blk.new W 85 Y _ rfl;have hb:=bAl (aj W) (.cells Y 85);clear l0;generalize W.alloc (.cells Y 85)=w3 at *;obtain ⟨x1,x2,x3,x4,x5⟩:=hxo;have hz3:=hb.size
  have hcY:Hid (∀ w',Blk w' W.heap.size 85 Y→(w'.cell? ⟨W.heap.size,0,none⟩=some (.int .i64 x.node)∧w'.cell? ⟨W.heap.size,1,none⟩=some (.int .i64 x.no)∧w'.cell? ⟨W.heap.size,34,none⟩=some (.slice Ad x.data.length cd))∧Rd w' w'.heap.size 1 (some ⟨W.heap.size,2,none⟩) x.prev.length (ag x.prev)):=aab (fun w' B=>by
   rw [←hY] at B;have hp:=x3.1;refine ⟨⟨B.cell 0,B.cell 1,(B.cell 34).trans ?_⟩,⟨by rw [ai,aaA],fun _=>⟨W.heap.size,2,rfl,B.lt,fun j u hu=>?_⟩⟩⟩
   ·rw [aaG]
    unfold Lnk.cl;rw [aaz (by simp),aaz (by simp [ai,hp])];simp [ai,hp]
   ·rw [B.cell,aaG]
    unfold Lnk.cl
    rw [aaz (by simp),aaO (by
     have:=(aag.1 hu).1
     simp at this ⊢;omega)]
    simpa using hu)
  go_wp2_with fail;go_loopw [5,6] (fun v i wr=>∃ j:Nat,j≤32∧i = .int .i64 j∧Below W.heap.size W wr∧Blk wr W.heap.size 85 Y∧wr.ownsRow (W.heap.size+1) 5 1 v j (ag (x.prev.take j))) (fun _ i _=>32 - (intOf i).toNat)
  case atStart=>exact ⟨0,by omega,rfl,hb,BY,by rw [abj];exact World.ownsRow_nil _ _ _ _⟩
  case round =>
   have hz4:W.heap.size+1≤w3.heap.size:=(by have:=BY.lt;omega);clear hb BY hz3;obtain ⟨j,hj,rfl,hb,BY,hown⟩:=hrel;obtain ⟨⟨d0,d1,d2⟩,hRp⟩:=hcY.out wr BY;have hs:W.heap.size+1≤wr.heap.size:=(by have:=BY.lt;omega);by_cases hlt:j<32
   ·obtain ⟨a,ha⟩:∃ a,Hid (x.prev[j]?=some a):=⟨_,aab (aac (by rw [x3.1];exact hlt))⟩
    have d3:wr.cell? ⟨W.heap.size,2+j,none⟩=some (.int .u8 (a:Nat)):=by
     obtain ⟨b9,o9,e9,_,k9⟩:=hRp.2 (by rw [x3.1];omega);injection e9 with e9
     injection e9 with e9 e10
     subst e9;subst e10;exact k9 j _ (by simp [ag,ha.out])
    have j0:(0:Int)≤(j:Int):=(by omega);have j1:(j:Int)<32:=(by omega);have hone1:∀ u∈[Value.int .u8 (a:Nat)],u.oneCell'=true:=(by intro u hu;simp at hu;rw [hu];rfl);have h63:j+1≤maxLen:=(by unfold maxLen;omega);have hby:(j+1)*1≤140737488355328:=(by omega);obtain ⟨xs,hxs⟩:∃ xs,Hid (ag (x.prev.take j)=xs):=⟨_,aab rfl⟩
    rw [hxs.out] at hown;clear hRp d0 d1 d2;go_wp2_with (at_builtin;refine aO wr [.int .u8 (a:Nat)] (.tmp 22) (.tmp 27) 83 (W.heap.size+1) 5 (.int .u8 0) 1 1 _ j xs rfl rfl underlying83 Vz rfl (by omega) rfl hown rfl rfl hone1 h63 hby hs ?_;intro v' w' hown4 hg4)
    have BY2:=hg4.blk hown BY (by decide);have hb2:=hb.trans ((hg4.below hown hs).mono (by omega));rw [←hxs.out,Dk ha.out] at hown4;go_wp2_with fail;exact ⟨⟨j+1,by omega,by go_num,hb2,BY2,hown4⟩,by simp [intOf];omega⟩
   ·obtain rfl:j=32:=by omega
    rw [aaH (by rw [x3.1];omega)] at hown;obtain ⟨A3,c3,rfl,hR3⟩:=Rd.of_own hown;have KS:Hid (∀ w',Below wr.heap.size wr w'→(w'.cell? ⟨W.heap.size,0,none⟩=some (.int .i64 x.node)∧w'.cell? ⟨W.heap.size,1,none⟩=some (.int .i64 x.no)∧w'.cell? ⟨W.heap.size,34,none⟩=some (.slice Ad x.data.length cd))):=aab (fun w' h=>(hcY.out _ (BY.below h BY.lt)).1);have q1:Hid (∀ w',Below wr.heap.size wr w'→Calls prog 262 #[.slice A3 32 c3] w' (Ret (.agg #[.int .i64 2,.int .i64 0,.string (fQ x.prev),.slice none 0 0]) w')):=aab (fun w' h=>N8 A3 32 c3 x.prev w' (by rw [x3.1];exact (hR3.below h).more h.size) x3.1 x3.2);have q2:Hid (∀ w',Below wr.heap.size wr w'→Calls prog 262 #[.slice Ad x.data.length cd] w' (Ret (.agg #[.int .i64 2,.int .i64 0,.string (fQ x.data),.slice none 0 0]) w')):=aab (fun w' h=>N8 _ _ _ _ w' ((hRd.below (ah hb h)).more (aaj hb.size h.size)) rfl x4);have q3:Hid (∀ A w',Rd w' w'.heap.size 4 A 4 (x.its.flatMap It.cells)→Calls prog 116 #[.agg #[.int .i64 3,.int .i64 0,.string ⟨#[]⟩,.slice A 4 4]] w' (fun r w''=>∃ v,r = .returned (.tuple #[v,.int .i64 0])∧Below w'.heap.size w' w''∧Sl w'' w''.heap.size 1 v (bZ x.its).length (ag (bZ x.its)))):=aab (fun A w' h=>LM A 4 4 x.its w' h (Lnk.its_ok x ⟨x1,x2,x3,x4,x5⟩) (by omega));have hl2:((ig l).1=rG∧(ig l).2=bZ x.its):=(by rw [hX.out];exact ⟨rfl,rfl⟩);have HL:=aab hl2;clear hl2 d0 d1 d2 hRp hR3 hown;go_upto_region 9 with fail;refine aK (f:=17) KS [(0,1),(1,2),(3,1),(4,2),(6,1),(8,1),(9,2),(2,0),(5,0),(7,0),(10,0),(11,0),(12,1),(13,0),(14,1),(15,1),(16,1),(17,3),(18,3)] ?_
    simp only [bf,aap,aar];refine ak ?_;refine ax ?_;refine ak ?_;refine ax ?_
    iterate 2 refine ak ?_
    refine ax ?_;refine au (fun K hK=>?_);go_simp;(go_at_call 261;(with_reducible refine (nH _ _).mono ?_);rintro e w12 ⟨rfl,b12⟩;have B12:Below wr.heap.size wr w12:=ah (by first | with_reducible assumption | with_reducible exact bDr (aj _)) b12);refine aH hK KS ?_;clear hK K;refine au (fun K hK=>?_);go_simp;(go_at_call 261;(with_reducible refine (nH _ _).mono ?_);rintro e w12 ⟨rfl,b12⟩;have B12:Below wr.heap.size wr w12:=ah (by first | with_reducible assumption | with_reducible exact bDr (aj _)) b12)
    refine aH hK KS ?_;clear hK K;refine au (fun K hK=>?_);go_simp;(go_at_call 262;(with_reducible refine (q1.out _ (by first | with_reducible assumption | with_reducible exact bDr (aj _))).mono ?_);rintro e w12 ⟨rfl,b12⟩;have B12:Below wr.heap.size wr w12:=ah (by first | with_reducible assumption | with_reducible exact bDr (aj _)) b12);refine aH hK KS ?_;clear hK K;refine au (fun K hK=>?_);go_simp;(go_at_call 262;(with_reducible refine (q2.out _ (by first | with_reducible assumption | with_reducible exact bDr (aj _))).mono ?_);rintro e w12 ⟨rfl,b12⟩;have B12:Below wr.heap.size wr w12:=ah (by first | with_reducible assumption | with_reducible exact bDr (aj _)) b12;have R14:=(Rd.new w12 [.int .i64 1,.int .i64 x.node,.string ⟨#[]⟩,.slice none 0 0,.int .i64 1,.int .i64 x.no,.string ⟨#[]⟩,.slice none 0 0,.int .i64 2,.int .i64 0,.string (fQ x.prev),.slice none 0 0,.int .i64 2,.int .i64 0,.string (fQ x.data),.slice none 0 0] 169 4 4 _ rfl rfl))
    refine aH hK KS ?_;clear hK K;refine au (fun K hK=>?_);go_simp;refine aH hK KS ?_;clear hK K;refine ak ?_;refine au (fun K hK=>?_);go_simp;(go_at_call 116;(with_reducible refine (q3.out _ _ (R14.more (by simp))).mono ?_);rintro e w13 ⟨v5,rfl,b13,A5,c5,rfl,R5,_,_,N5⟩;have B13:Below wr.heap.size wr w13:=ah (bAl B12 _) b13)
    refine aH hK KS ?_;clear hK K
    iterate 3 refine ak ?_
    refine aN ?_
    first | simp only [aak] | simp only [aat,aak]
    replace hb:=ah hb B13;go_wp2_with fail;refine NoPanic.normal ?_;go_wp2_with fail;go_ret2;rw [HL.out.1,HL.out.2];exact ⟨_,rfl,hb,A5,c5,rfl,R5,by assumption,by assumption,N5⟩
theorem VB (A:Option Addr) (c:Nat) (l:List Lnk) (vs:List Value) (W:World) (hA:LksAt W W.heap.size A l vs) (hn:l.length≤1000000):Calls prog 158 #[.slice A l.length c] W (Ret (dig (fV l)) W):=by
 have BD:Blk (W.alloc (.cells (ag (aF 32)).toArray 29)) W.heap.size 29 (ag (aF 32)).toArray:=Blk.new W _ _ _ rfl;have hb:=bAl (aj W) (.cells (ag (aF 32)).toArray 29);have q:=VA A c l vs _ ((hA.below hb).more hb.size) hn;go_enter func158,ntmps158;go_upto_region 1 with fail;change Code.wp _ _ _ _ (W.alloc (.cells (ag (aF 32)).toArray 29));generalize W.alloc (.cells (ag (aF 32)).toArray 29)=w1 at *
 have htl:(ig l).1.size≤1000000∧okB (ig l).2∧(ig l).2.length≤70368744177600:=by
  rcases hl:l.getLast? with _ | x
  ·have e:ig l=(uA,[]):=by unfold ig;rw [hl]
   rw [e];exact ⟨(by decide:uA.size≤1000000),(fun x hx=>by cases hx),by simp⟩
  ·have e:ig l=(rG,bZ x.its):=by unfold ig;rw [hl]
   rw [e];exact ⟨(by decide:rG.size≤1000000),iI _,aaj (jZ (Lnk.its_ok x (hA.2.2.2 x (List.mem_of_getLast? hl))) (by simp [Lnk.its])) (by omega)⟩
 have hX:Hid (dig (fV l)=dig (dP (sb (ig l).1) (ig l).2)):=aab (by rw [P6]);have q2:=fun A c w h1 h2=>LW (ig l).1 A (ig l).2.length c (ig l).2 w h1 h2 htl.2.1 htl.1 htl.2.2;have hln:=dZ (sb (ig l).1) (ig l).2;unfold dig at q2;generalize dP (sb (ig l).1) (ig l).2=X at *;generalize (ig l).1=T1 at *;generalize (ig l).2=T2 at *;replace q2:=aab q2;clear htl;go_wp2_with fail;refine q.mono ?_;rintro e w2 ⟨v,rfl,b2,A5,c5,rfl,R5,_,_,N5⟩;have BD1:=BD.below b2 BD.lt;have hb1:=ah hb b2;have q3:=q2.out A5 c5 w2 R5 N5;clear q q2;go_upto_region 2 with fail;go_wp2_with fail;refine q3.mono ?_;rintro e w3 ⟨rfl,b3⟩;have BD2:=BD1.below b3 BD1.lt;have hb2:=ah hb1 b3;dsimp only;go_step;refine wpList_store_row rfl 29 (.tmp 2) (.tmp 12) rfl W.heap.size (ag X).toArray rfl rfl 29 _ BD2 (by rw [aae,ai,hln];exact aW) (by rw [aae,aae,ai,ai,hln];rfl) (fK _) ?_;have hb9:=below_setRow hb2 (aad _) (ag X).toArray;have BD9:Blk (w3.setRow W.heap.size (ag X).toArray) W.heap.size 29 (ag X).toArray:=setRow_heap w3 W.heap.size _ _ 29 _ BD2;go_wp2_with fail;exact bodyPost_ret (v:=dig X) (results_cell_row rfl _ _ W.heap.size 29 _ (0,0) _ rfl BD9 bQ rfl (by rw [aae,ai,hln];exact aW)) rfl ⟨by rw [hX.out],hb9⟩
theorem EJ {l:List Lnk} {k:Nat} {x:Lnk} (hc:chainE l=0) (hx:l[k]?=some x):l.length≤1024∧(∀ y,l[0]?=some y→x.node=y.node)∧0≤x.node∧x.node<24∧x.no=(k:Int)∧x.data.length≤65536∧x.prev=fV (l.take k):=by
 have hk:=(aag.1 hx).1;unfold chainE at hc
 split at hc
 ·cases hc
 ·rename_i h1
  split at hc
  ·rename_i h2
   unfold chainB at h2;have h3:=aau.1 h2 k (aaE.2 hk);rw [aS hx] at h3;unfold Hl at h3;simp only [aal,decide_eq_true_eq] at h3;obtain ⟨⟨⟨⟨⟨h4,h5⟩,h6⟩,h7⟩,h8⟩,h9⟩:=h3;refine ⟨by omega,fun y hy=>?_,h5,h6,h7,h8,h9⟩;rw [h4];cases l with
   | nil=>simp at hk
   | cons a r=>simp at hy;rw [hy];rfl
  ·cases hc
theorem Uc (A:Option Addr) (c:Nat) (l:List Lnk) (vs:List Value) (W:World) (hA:LksAt W W.heap.size A l vs) (hn:l.length≤1000000) (hcap:l.length≤c) (hc:chainE l=0) :
  Calls prog 78 #[.slice A l.length c] W (Ret (.int .i64 0) W):=by
 have hl:¬1024<(l.length:Int):=by
  by_cases h0:0<l.length
  ·have:=(EJ hc (aac h0)).1;omega
  ·omega
 replace hc:=aab hc;go_enter func78,ntmps78;go_wp2_with fail;go_loopw [3] (fun i wr=>∃ k:Nat,k≤l.length∧i = .int .i64 k∧Below W.heap.size W wr) (fun i _=>l.length - (intOf i).toNat)
 case atStart=>exact ⟨0,aao _,rfl,aj W⟩
 case round =>
  obtain ⟨k,hkn,rfl,hb⟩:=hrel;by_cases hlt:k<l.length
  ·obtain ⟨x,hx⟩:∃ x,l[k]?=some x:=⟨_,aac hlt⟩
   obtain ⟨y0,hy0⟩:∃ y,l[0]?=some y:=⟨_,aac (by omega)⟩
   obtain ⟨_,hnd,hn0,hn1,hno,hdl,hpv⟩:=EJ hc.out hx;replace hnd:=hnd y0 hy0;have hLb:=hA.below hb;obtain ⟨b,off,Ad,cd,rfl,hbb,hxo,hRd,hrg⟩:=hLb.at_ hx;obtain ⟨b',off',Ad',cd',e',_,hyo,_,hrg0⟩:=hLb.at_ hy0;injection e' with e'
   injection e' with e1 e2
   subst e1;subst e2;have c0:wr.cell? ⟨b,off,none⟩=some (.int .i64 y0.node):=(by have:=hrg0 0 _ (by rfl:(y0.cl (.slice Ad' y0.data.length cd'))[0]?=some (.int .i64 y0.node));simpa using this);have hxl:=Lnk.cl_length (v := .slice Ad x.data.length cd) hxo;have l0:=run_loadAt_mid (P:=prog) wr b (off+k*35) 85 (x.cl (.slice Ad x.data.length cd)) _ hrg underlying85 rfl (by rw [hxl];exact gu);have hone:∀ v∈(x.cl (.slice Ad x.data.length cd)).toArray.toList,v.oneCell'=true:=(by simpa using Lnk.one x _ rfl);have hsz:(x.cl (.slice Ad x.data.length cd)).toArray.size=35:=(by simpa using hxl);have hp32:=hxo.2.2.1.1;obtain ⟨Y,hY⟩:∃ Y,(x.cl (.slice Ad x.data.length cd)).toArray=Y:=⟨_,rfl⟩
   have hcY:Hid (∀ w',Blk w' wr.heap.size 85 Y→(w'.cell? ⟨wr.heap.size,0,none⟩=some (.int .i64 x.node)∧w'.cell? ⟨wr.heap.size,1,none⟩=some (.int .i64 x.no)∧w'.cell? ⟨wr.heap.size,34,none⟩=some (.slice Ad x.data.length cd))∧∀ j u,(ag x.prev)[j]?=some u→w'.cell? ⟨wr.heap.size,2+j,none⟩=some u):=aab (fun w' B=>by
    rw [←hY] at B;refine ⟨⟨B.cell 0,B.cell 1,(B.cell 34).trans ?_⟩,fun j u hu=>?_⟩
    ·rw [aaG]
     unfold Lnk.cl;rw [aaz (by simp),aaz (by simp [ai,hp32])];simp [ai,hp32]
    ·rw [B.cell,aaG]
     unfold Lnk.cl
     rw [aaz (by simp),aaO (by
      have:=(aag.1 hu).1
      simp at this ⊢;omega)]
     simpa using hu)
   rw [hY] at l0 hone hsz;have i0:(0:Int)≤(k:Int):=(by omega);have i1:(k:Int)<(l.length:Int):=(by omega);have i2:(0:Int)<(l.length:Int):=(by omega);have i5:0<l.length:=(by omega);have i3:(k:Int)≤(l.length:Int):=(by omega);have i4:k≤c:=(by omega);have hcl2:Hid (LksAt W W.heap.size (some ⟨b,off,none⟩) (l.take k) (vs.take k)∧(l.take k).length=k):=aab ⟨hA.take k (by omega),by rw [aav];omega⟩
   have q:Hid (∀ w',Below wr.heap.size wr w'→Calls prog 158 #[.slice (some ⟨b,off,none⟩) k c] w' (Ret (.agg (ag x.prev).toArray) w')):=aab (fun w' h=>by
    have hb2:=ah hb h
    have:=VB (some ⟨b,off,none⟩) c (l.take k) (vs.take k) w' ((hcl2.out.1.below hb2).more hb2.size) (by rw [hcl2.out.2];omega)
    rw [hcl2.out.2,←hpv] at this;exact this)
   have hq5:=zY x.prev x.prev hp32 hp32;have e1:decide (x.prev=x.prev)=true:=decide_eq_true rfl;rw [e1] at hq5;replace hq5:∀ w,(binOp .neq 29 (.agg (ag x.prev).toArray) (.agg (ag x.prev).toArray)).run prog w = .ok (.bool false) w:=hq5;have n0:¬x.node<0:=(by omega);have n1:¬24≤x.node:=(by omega);have n2:(x.node != y0.node)=false:=(by simpa using hnd);have n3:(x.no != (k:Int))=false:=(by simpa using hno);have n4:¬65536<(x.data.length:Int):=(by omega);clear hrg hrg0 hpv hnd hno hx hy0 e1 hLb;go_upto_region 6 with fail;apply wp_region_lit
   iterate 9 go_step
   refine aP (by rfl) (by rfl) (by rfl) l0 ?_;simp only [Act.put,aaf,aai,aah]
   iterate 3 go_step
   refine aG (by rfl) (by rfl) (by rfl) (by rfl) (bP (X:=Y) (by rw [hsz];exact gu) (by rw [hsz];rfl) hone) ?_;simp only [Act.put];have BY:=Blk.new wr 85 Y _ rfl;have hb3:=bAl (aj wr) (.cells Y 85);clear l0 hY;generalize wr.alloc (.cells Y 85)=w3 at *;have hb3z:=hb3.size;replace q:Hid (∀ w',Below w3.heap.size w3 w'→Calls prog 158 #[.slice (some ⟨b,off,none⟩) k c] w' (Ret (.agg (ag x.prev).toArray) w')):=aab (fun w' h=>q.out w' (ah hb3 h))
   have KS:Hid (∀ w',Below w3.heap.size w3 w'→((Instr.loadAt 29 (.pointer (some ⟨wr.heap.size,2,none⟩))).run prog w' = .ok (.agg (ag x.prev).toArray) w'∧w'.cell? ⟨wr.heap.size,0,none⟩=some (.int .i64 x.node)∧w'.cell? ⟨wr.heap.size,1,none⟩=some (.int .i64 x.no)∧w'.cell? ⟨wr.heap.size,34,none⟩=some (.slice Ad x.data.length cd)∧w'.cell? ⟨b,off,none⟩=some (.int .i64 y0.node))):=aab (fun w' h =>
    ⟨fF (g:=wr.heap.size) (o:=2) (fun j u hu=>(hcY.out _ (BY.below h BY.lt)).2 j u hu) hp32,(hcY.out _ (BY.below h BY.lt)).1.1,(hcY.out _ (BY.below h BY.lt)).1.2.1,(hcY.out _ (BY.below h BY.lt)).1.2.2,((ah hb3 h).cell (p:=⟨b,off,none⟩) (by have:=hb.size;show b<_;omega)).trans c0⟩)
   generalize (ag x.prev).toArray=D at *;go_upto_region 7 with fail;refine fA (g:=0) KS [(0,1),(1,2),(2,1),(3,1),(4,1),(5,2),(6,1),(7,1),(8,1),(9,1),(10,2),(11,1),(12,1),(13,1),(14,2),(15,1),(16,1),(17,1),(18,1),(19,2),(20,1),(21,1),(22,1),(23,1),(24,1),(25,2),(26,1),(27,1),(28,1),(29,1),(30,1),(31,2),(32,1),(33,1),(34,1),(35,0),(36,1),(37,1)] ?_;simp only [bf,aap,aar];refine ae ?_;refine az ?_;refine ae ?_;refine ae ?_;refine ae ?_;refine az ?_;refine ae ?_;refine ae ?_;refine ae ?_;refine ae ?_;refine az ?_;refine ae ?_;refine ae ?_;refine ae ?_;refine az ?_;refine ae ?_;refine ae ?_;refine ae ?_;refine ae ?_;refine az ?_;refine ae ?_;refine ae ?_;refine ae ?_;refine ae ?_;refine ae ?_;refine az ?_;refine ae ?_;refine ae ?_;refine ae ?_;refine ae ?_;refine ae ?_;refine az (v:=?vq1) (hv:=?hq1) ?_;case hq1=>(intro w hSw;(first | refine (af rfl rfl hSw).trans ?_ | refine (af rfl rfl hSw.1).trans ?_ | refine (af rfl rfl hSw.2.1).trans ?_ | refine (af rfl rfl hSw.2.2.1).trans ?_ | refine (af rfl rfl hSw.2).trans ?_ | refine (af rfl rfl hSw.2.2).trans ?_);with_reducible rfl)
   refine ae ?_;refine ae ?_;refine ae ?_;refine bW (fun K hK=>?_);go_simp;(first | (go_at_call 158;(with_reducible refine (q.out _ (by with_reducible exact bDr (aj _))).mono ?_);rintro e w6 ⟨rfl,b6⟩;have B6:Below w3.heap.size w3 w6:=ah (bDr (aj _)) b6) | skip);refine aH hK KS ?_;clear hK K;refine ae ?_;refine ae ?_;replace hb:=ah hb (ah hb3 B6);clear KS q B6 b6 hcY c0 n0 n1 n2 n3 n4;refine jk ?_;refine NoPanic.normal ?_;go_wp2_with fail;exact ⟨⟨k+1,by omega,by go_num,hb⟩,by simp [intOf];omega⟩
  ·go_wp2_with fail
   go_ret;exact ⟨rfl,hb⟩
theorem Ud (n:Int) (h:0≤n∧n<24) (W:World):Calls prog 47 #[.int .i64 n] W (Same (.bool true) W):=by
 obtain ⟨h0,h1⟩:=h;go_enter func47,ntmps47;go_wp2_with fail;go_ret;exact ⟨rfl,rfl⟩
theorem LY (n:Int) (h:iO n=true) (W:World):Calls prog 48 #[.int .i64 n] W (Same (.bool true) W):=by
 obtain ⟨h0,h1⟩:=rO h;go_enter func48,ntmps48;go_wp2_with fail;go_ret;exact ⟨rfl,rfl⟩
theorem LZ (o:Ofc) (A Au:Option Addr) (c cu:Nat) (vs:List Value) (W:World) (hA:LksAt W W.heap.size A o.chain vs) (hn:o.chain.length≤1000000) (hcap:o.chain.length≤c) (hU:Rd W W.heap.size 32 Au o.used.length (o.used.flatMap ag)) (hok:∀ x∈o.used,dL x) (hg:o.good=true) :
  Calls prog 17 #[.agg #[.int .i64 o.no,.int .i64 o.secret,.slice A o.chain.length c,.slice Au o.used.length cu]] W (Ret (.int .i64 0) W):=by
 unfold Ofc.good at hg;simp only [aal,decide_eq_true_eq,aau] at hg;obtain ⟨⟨hno,hs⟩,⟨hch,hall⟩,hr,hmax⟩:=hg;have BO:=Blk.new W 25 #[.int .i64 o.no,.int .i64 o.secret,.slice A o.chain.length c,.slice Au o.used.length cu] _ rfl;have hb:=bAl (aj W) (.cells #[.int .i64 o.no,.int .i64 o.secret,.slice A o.chain.length c,.slice Au o.used.length cu] 25);have q1:=fun w=>Ud o.no hno w;have q2:=fun w=>LY o.secret hs w;have q3:=Uc A c o.chain vs (W.alloc (.cells #[.int .i64 o.no,.int .i64 o.secret,.slice A o.chain.length c,.slice Au o.used.length cu] 25)) ((hA.below hb).more hb.size) hn hcap hch;have q4:Hid (∀ w',Below (W.alloc (.cells #[.int .i64 o.no,.int .i64 o.secret,.slice A o.chain.length c,.slice Au o.used.length cu] 25)).heap.size (W.alloc (.cells #[.int .i64 o.no,.int .i64 o.secret,.slice A o.chain.length c,.slice Au o.used.length cu] 25)) w'→Calls prog 29 #[.slice Au o.used.length cu] w' (Ret (.bool true) w')):=aab (fun w' h=>TR Au cu o.used w' ((hU.below (ah hb h)).more (aaj hb.size h.size)) hok hr (by omega));have m1:(o.used.length:Int)≤4096:=by omega
 have hfirst:Hid (∀ y,o.chain[0]?=some y→y.node=o.no):=aab (fun y hy=>hall y (aam hy));clear hall hch hr hmax hno hs;have c0:=BO.cell 0;have c1:=BO.cell 1;have c2:=BO.cell 2;have c3:=BO.cell 3;go_enter func17,ntmps17;go_upto_region 1 with fail;generalize W.alloc (.cells _ 25)=w1 at *;go_wp2_with fail;refine (q1 _).mono ?_;rintro e w2 ⟨rfl,rfl⟩;go_wp2_with fail;refine (q2 _).mono ?_;rintro e w2 ⟨rfl,rfl⟩;clear q1 q2;go_wp2_with fail;refine q3.mono ?_;rintro e w2 ⟨rfl,b2⟩;have q5:=q4.out w2 b2;have BO2:=BO.below b2 BO.lt;clear q3 q4 c0 c1 c2 c3;have c0:=BO2.cell 0;have c2:=BO2.cell 2;have c3:=BO2.cell 3;go_wp2_with fail;refine q5.mono ?_;rintro e w3 ⟨rfl,b3⟩;have BO3:=BO2.below b3 BO2.lt;clear q5 c0 c2 c3;have c0:w3.cell? ⟨W.heap.size,0,none⟩=some (.int .i64 o.no):=BO3.cell 0;have c2:w3.cell? ⟨W.heap.size,2,none⟩=some (.slice A o.chain.length c):=BO3.cell 2;have hb3:=ah (ah hb b2) b3;by_cases h0:0<o.chain.length
 ·obtain ⟨y,hy⟩:∃ y,o.chain[0]?=some y:=⟨_,aac h0⟩
  obtain ⟨b,off,Ad,cd,rfl,hbb,hxo,hRd,hrg⟩:=(hA.below hb3).at_ hy;have c4:w3.cell? ⟨b,off,none⟩=some (.int .i64 y.node):=by have:=hrg 0 _ (by rfl:(y.cl (.slice Ad y.data.length cd))[0]?=some (.int .i64 y.node));simpa using this
  have hyn:=hfirst.out y hy;rw [hyn] at c4;have i2:decide ((0:Int)<(o.chain.length:Int))=true:=decide_eq_true (by omega);have i3:(0:Int)<(o.chain.length:Int):=by omega
  have hne:(o.no != o.no)=false:=by simp
  clear hrg hy hyn;go_upto_region 3 with fail;go_quiet (fail)
  go_wp2_with fail;go_ret;exact ⟨rfl,o8 hb3 _⟩
 ·have i2:decide ((0:Int)<(o.chain.length:Int))=false:=decide_eq_false (by omega)
  have i3:o.chain.length=0:=by omega
  go_upto_region 3 with fail;go_quiet (fail)
  go_wp2_with fail;go_ret;exact ⟨rfl,o8 hb3 _⟩
end
end Go.Proofs.YthbibbkbaphpkaaGreatDoor

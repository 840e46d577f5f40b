/- The reference's digest: Sum; walked. -/
import Derived.Test.YthbibbkbaphpkaaGreatDoorMaz
set_option maxHeartbeats 16000000
set_option maxRecDepth 1000000
namespace Go.Proofs.YthbibbkbaphpkaaGreatDoor
open _root_.Go.Proofs.Tryz
open Go.RowKit
theorem LV (l:List Nat):(l++qU l.length).length=64 * ((l.length+72) / 64):=by
 rw [aan,Qs];omega
theorem Jk:∀ (l:List Nat) (i j x:Nat),l[i]?=some x→j<4→(l.flatMap fun v=>bJ v 4)[4*i+j]?=(bJ x 4)[j]?
 | [],i,j,x,h,_=>by simp at h
 | y::l,0,j,x,h,hj=>by
  simp only [aap,Option.some.injEq] at h;subst h;rw [aaF,Nat.mul_zero,aax,aaO (by rw [iw];exact hj)]
 | y::l,i+1,j,x,h,hj=>by
  simp only [aar] at h;rw [aaF,aaz (by rw [iw];omega),iw]
  have:4 * (i+1)+j - 4=4*i+j:=by omega
  rw [this];exact Jk l i j x h hj
theorem bytes4 (x:Nat):bJ x 4=[x / 16777216 % 256,x / 65536 % 256,x / 256 % 256,x % 256]:=by
 show [x / 256 / 256 / 256 % 256,x / 256 / 256 % 256,x / 256 % 256,x % 256]=_;simp only [Nat.div_div_eq_div_mul]
theorem Ub {X:List Nat} {k y:Nat} {Y:Int} (h:X[k]?=some y) (hk:k<32) (hY:Y=(y:Nat)) :
  (ag (X.take k++aF (32 - k))).toArray.setIfInBounds k (.int .u8 Y)=(ag (X.take (k+1)++aF (32 - (k+1)))).toArray:=by
 subst hY;obtain ⟨hl,rfl⟩:=aag.1 h;rw [aaf];congr 1;have e:32 - k=(32 - (k+1))+1:=by omega
 have hlen:(X.take k).length=k:=by rw [aav];omega
 rw [aaB hl,e];unfold ag aF;rw [List.replicate_succ,aaT,aaT,aaT,abw _ _ (by rw [aaQ,hlen];exact aad _),aaQ,hlen,Nat.sub_self]
 simp
theorem Blk.setByte {w:World} {g k y:Nat} {t:TypeId} {X:List Nat} {Y:Int} (h:Blk w g t (ag (X.take k++aF (32 - k))).toArray) (hy:X[k]?=some y) (hk:k<32) (hY:Y=(y:Nat)) :
  Blk (w.setCell ⟨g,k,none⟩ (.int .u8 Y)) g t (ag (X.take (k+1)++aF (32 - (k+1)))).toArray:=by
 rw [←Ub hy hk hY];exact h.set_ k _
theorem N7 (A:Option Addr) (n c:Nat) (l:List Nat) (W:World) (hA:Rd W W.heap.size 1 A n (ag l)) (hnil:A=none→n=0∧c=0) (ho:okB l) (hn:n≤70368744177700) :
  Calls prog 189 #[.slice A n c] W (Ret (dig (bM l)) W):=by
 obtain rfl:l.length=n:=by have:=hA.1;rw [ai,aaA] at this;exact this
 have hPB:=aab (LV l);have HS:Hid (bM l=(bH iq (l++qU l.length) ((l.length+72) / 64)).list.flatMap fun v=>bJ v 4):=aab rfl;obtain ⟨M,hM⟩:∃ M,Hid (M=(l.length+72) / 64):=⟨_,aab rfl⟩
 rw [←hM.out] at HS hPB;have hMl:M≤70368744177800:=by rw [hM.out];omega
 have q1:=fun w (h:Below W.heap.size W w)=>LU A l.length c l w ((hA.below h).more h.size) hnil hn;have hoP:okB (l++qU l.length):=mP ho (EN _);generalize l++qU l.length=P at *;obtain ⟨n2,hn2⟩:∃ n2,Hid (n2=P.length):=⟨_,aab rfl⟩
 rw [←hn2.out] at hPB q1;generalize bM l=X at *;go_enter func189,ntmps189;go_upto_region 2 with fail;change Code.wp _ _ _ _ ((W.alloc (.cells (ag (aF 32)).toArray 29)).alloc (.cells (bY iq.list).toArray 267));have BD:=(Blk.new W 29 (ag (aF 32)).toArray _ rfl).alloc (.cells (bY iq.list).toArray 267);have BS:=Blk.new (W.alloc (.cells (ag (aF 32)).toArray 29)) 267 (bY iq.list).toArray (W.heap.size+1) (by simp);have hb:=bAl (bAl (aj W) (.cells (ag (aF 32)).toArray 29)) (.cells (bY iq.list).toArray 267);generalize (W.alloc (.cells (ag (aF 32)).toArray 29)).alloc (.cells (bY iq.list).toArray 267)=w1 at *;have q2:=q1 w1 hb;go_wp2_with fail;refine q2.mono ?_;rintro e w2 ⟨v2,rfl,b2,hown⟩;obtain ⟨A2,c2,hv2,-⟩:=Sl.of_own hown;subst hv2;have hw1:W.heap.size+1<w1.heap.size:=BS.lt;have hb2:=ah hb b2;have BD2:=BD.below b2 BD.lt;have BS2:=BS.below b2 BS.lt;clear q1 q2 hb BD BS b2;go_wp2_with fail;go_loopw [5] (fun i wr=>∃ j q:Nat,j≤M∧Hid (q=64*j)∧q≤n2∧i = .int .i64 q∧Below W.heap.size W wr∧wr.ownsRow w1.heap.size 5 1 (.slice A2 n2 c2) n2 (ag P)∧Blk wr W.heap.size 29 (ag (aF 32)).toArray∧Blk wr (W.heap.size+1) 267 (bY (bH iq P j).list).toArray) (fun i _=>n2 - (intOf i).toNat)
 case atStart=>exact ⟨0,0,aao _,aab rfl,aao _,rfl,hb2,hown,BD2,BS2⟩
 case round =>
  clear hb2 BD2 BS2 hown;obtain ⟨j,q,hj,hq,hqn,rfl,hb,hown,BD,BS⟩:=hrel;obtain ⟨_,_,hv2,hR,hc2,hc3,_⟩:=Sl.of_own hown;injection hv2 with e1 _ e3
  subst e1;subst e3;by_cases hlt:q<n2
  ·have hq64:q+64≤n2:=by have:=hPB.out;have:=hq.out;omega
   have hqc:q<c2:=(by omega);have hjM:j<M:=(by have:=hPB.out;have:=hq.out;omega);obtain ⟨b,off,rfl,hbb,hcc⟩:=hR.2 (by omega);have sok:(bH iq P j).ok:=iU vK j;have hnx:Hid (bH iq P (j+1)=jr (bH iq P j) ((P.drop q).take 64)):=by show _=_;rw [hq.out];rfl
   have hR2:Rd wr wr.heap.size 1 (some ⟨b,off+q,none⟩) 64 (ag ((P.drop q).take 64)):=by
    refine ⟨by rw [ai,aav,aa1,←hn2.out];omega,fun _=>⟨b,off+q,rfl,hbb,fun i u hu=>?_⟩⟩
    have hi:i<64:=by
     have:=(aag.1 hu).1
     rw [ai,aav] at this;omega
    rw [aay];refine hcc _ _ ?_;unfold ag at hu ⊢;rw [aaD] at hu ⊢;rw [aa6,if_pos hi,List.getElem?_drop] at hu;exact hu
   have hoB:okB ((P.drop q).take 64):=vO (kQ hoP q) 64;generalize (P.drop q).take 64=Bl at *;generalize bH iq P j=s at *;obtain ⟨s2,hs2⟩:∃ s2,Hid (s2=jr s Bl):=⟨_,aab rfl⟩
   obtain ⟨q0,q1,q2,q3,q4,q5,q6,q7⟩:=kR BS;have KS:Hid (∀ w',Below wr.heap.size wr w'→_):=aab (fun w' h=>kR (BS.below h BS.lt));have qb:=PZ s b (off+q) (c2 - q) Bl wr.drew sok hR2 hoB (by omega) (by omega);rw [←hs2.out] at qb;have fw:IntKind.i64.wrap ((q:Int)+64)=(q:Int)+64:=(by rw [IntKind.wrap_i64];omega);have ft:((q:Int)+64).toNat=q+64:=(by omega);have f1:(q:Int)+64≤(c2:Int):=(by omega);have f0:(0:Int)≤(q:Int)+64:=(by omega);have fq:¬(c2=q):=(by omega);have fs:q+64 - q=64:=(by omega);have fl:q≤q+64:=(by omega);go_upto_region 6 with fail;refine aK (f:=7) KS [(0,2),(1,1),(2,1),(3,1),(4,1),(5,1),(6,0),(7,3)] ?_;simp only [bf,aap,aar];refine ax ?_
   iterate 5 refine ak ?_
   refine au (fun K hK=>?_);go_simp;(first | (go_at_call 238;(with_reducible refine qb.mono ?_);rintro e w9 ⟨rfl,b9⟩;have B7:Below wr.heap.size wr w9:=ah (bDr (aj _)) b9) | skip);refine aH hK KS ?_;clear hK K;refine aN ?_
   first | simp only [aak] | simp only [aat,aak]
   have BD9:=BD.below B7 BD.lt;have BS9:=BS.below B7 BS.lt;have hb9:=ah hb B7;have hown9:=Dj (aC hown B7) hw1 (bY s2.list).toArray;clear KS q0 q1 q2 q3 q4 q5 q6 q7 BD BS hb B7 qb hR2 hown hR;have hX1:=xI s2.list;refine aG (v := .agg (bY s2.list).toArray) (by rfl) (by rfl) (by rfl) (by rfl) (aQ BS9 (by exact (by kernel_rfl:(prog.info? 267).map (·.size)=some 8)) (by rw [aae,aae,lV,lV];rfl) hX1) ?_;simp only [Act.put];have BR:=BS9.row (bY s2.list).toArray;have BD2:=BD9.farRow (show W.heap.size≠W.heap.size+1 by omega) (bY s2.list).toArray;have hbS:=below_setRow hb9 (show W.heap.size≤W.heap.size+1 by omega) (bY s2.list).toArray;generalize w9.setRow (W.heap.size+1) (bY s2.list).toArray=w5 at *;go_wp2_with fail;refine NoPanic.normal ?_;go_wp2_with fail;exact ⟨⟨j+1,q+64,by omega,aab (by have:=hq.out;omega),hq64,by go_num,hbS,hown9,BD2,by rw [hnx.out,←hs2.out];exact BR⟩,by simp [intOf];omega⟩
  ·have hj2:j=M:=by have:=hPB.out;have:=hq.out;omega
   rw [hj2] at BS;have sok:(bH iq P M).ok:=iU vK M;clear hj2 hj hq hqn hown hR;generalize bH iq P M=s at *;have HX:=HS.out;have hXl:Hid (X.length=32):=(by show _=_;rw [HX,pq];rfl);have hXo:okB X:=(by rw [HX];intro y hy;obtain ⟨v,_,hv⟩:=List.mem_flatMap.1 hy;exact tC v 4 y hv);have hsl:s.list.length=8:=rfl
   have hslt:∀ x∈s.list,x<4294967296:=by
    obtain ⟨o0,o1,o2,o3,o4,o5,o6,o7⟩:=sok;intro x hx;simp only [S8.list,aaq,aaw,or_false] at hx;rcases hx with rfl | rfl | rfl | rfl | rfl | rfl | rfl | rfl <;> assumption
   have HX2:=aab HX;have Hsl:=aab hsl;clear HX HS hsl;go_upto_region 7 with fail;apply wp_region_lit
   iterate 6 go_step
   refine aG (v := .agg (ag (aF 32)).toArray) (by rfl) (by rfl) (by rfl) (by rfl) (bP (by exact aW) (by rfl) (aZ (l:=aF 32))) ?_;simp only [Act.put];have BX:=Blk.new wr 29 (ag (aF 32)).toArray _ rfl;have BD1:=BD.alloc (.cells (ag (aF 32)).toArray 29);have BS1:=BS.alloc (.cells (ag (aF 32)).toArray 29);have hb1:=bAl hb (.cells (ag (aF 32)).toArray 29);have hg1:W.heap.size+1<wr.heap.size:=BS.lt;clear BD BS hb;generalize wr.alloc (.cells (ag (aF 32)).toArray 29)=w5 at *;generalize wr.heap.size=g at *;go_wp2_with fail;go_loopw [7] (fun i wr=>∃ k:Nat,k≤32∧i = .int .i64 k∧Below W.heap.size W wr∧Blk wr W.heap.size 29 (ag (aF 32)).toArray∧Blk wr (W.heap.size+1) 267 (bY s.list).toArray∧Blk wr g 29 (ag (X.take k++aF (32 - k))).toArray) (fun i _=>32 - (intOf i).toNat)
   case atStart=>exact ⟨0,aao _,rfl,hb1,BD1,BS1,BX⟩
   case round =>
    clear hb1 BD1 BS1 BX hlt;obtain ⟨k,hk,rfl,hb,BD,BS,BX⟩:=hrel;by_cases hlt:k<32
    ·obtain ⟨Q,R,hQ,hR4,hQ8⟩:∃ Q R,k=4*Q+R∧R<4∧Q<8:=⟨k / 4,k % 4,by omega,by omega,by omega⟩
     obtain ⟨x,hx⟩:∃ x,Hid (s.list[Q]?=some x):=⟨_,aab (aac (by rw [Hsl.out];exact hQ8))⟩
     have hx4:=hslt x (aam hx.out);have hxk:Hid (X[k]?=(bJ x 4)[R]?):=(by show _=_;rw [HX2.out,hQ];exact Jk _ _ _ _ hx.out hR4);have c0:wr.cell? ⟨W.heap.size+1,Q,none⟩=some (.int .u32 x):=(by rw [BS.cell];simpa using zT hx.out);have z0:=BX.frozen k;obtain ⟨y0,hy0⟩:∃ y,wr.cell? ⟨g,k,none⟩=some y:=⟨_,(BX.cell k).trans (abd (by rw [aae,ai,aan,aav,eH,hXl.out];omega))⟩
     have e1:(k:Int) / 4=(Q:Int):=(by omega);have e2:(Q:Int)<8:=(by omega);have e3:(k:Int)<32:=(by omega);have hr4:R=0∨R=1∨R=2∨R=3:=(by omega);rw [bytes4] at hxk;rcases hr4 with rfl | rfl | rfl | rfl
     ·have e4:(k:Int) % 4=0:=by omega
      have hy:X[k]?=some (x / 16777216 % 256):=hxk.out;have HY:=aab hy;clear hQ hxk hy;go_wp2_with fail;refine ⟨⟨k+1,by omega,by go_num,zQ7 hb (by show W.heap.size≤g;omega) _,BD.far (by show W.heap.size≠g;omega) _,BS.far (by show W.heap.size+1≠g;omega) _,?_⟩,by simp [intOf];omega⟩;exact BX.setByte HY.out hlt (by omega)
     ·have e4:(k:Int) % 4=1:=by omega
      have hy:X[k]?=some (x / 65536 % 256):=hxk.out;have HY:=aab hy;clear hQ hxk hy;go_wp2_with fail;refine ⟨⟨k+1,by omega,by go_num,zQ7 hb (by show W.heap.size≤g;omega) _,BD.far (by show W.heap.size≠g;omega) _,BS.far (by show W.heap.size+1≠g;omega) _,?_⟩,by simp [intOf];omega⟩;exact BX.setByte HY.out hlt (by omega)
     ·have e4:(k:Int) % 4=2:=by omega
      have hy:X[k]?=some (x / 256 % 256):=hxk.out;have HY:=aab hy;clear hQ hxk hy;go_wp2_with fail;refine ⟨⟨k+1,by omega,by go_num,zQ7 hb (by show W.heap.size≤g;omega) _,BD.far (by show W.heap.size≠g;omega) _,BS.far (by show W.heap.size+1≠g;omega) _,?_⟩,by simp [intOf];omega⟩;exact BX.setByte HY.out hlt (by omega)
     ·have e4:(k:Int) % 4=3:=by omega
      have hy:X[k]?=some (x % 256):=hxk.out;have HY:=aab hy;clear hQ hxk hy;go_wp2_with fail;refine ⟨⟨k+1,by omega,by go_num,zQ7 hb (by show W.heap.size≤g;omega) _,BD.far (by show W.heap.size≠g;omega) _,BS.far (by show W.heap.size+1≠g;omega) _,?_⟩,by simp [intOf];omega⟩;exact BX.setByte HY.out hlt (by omega)
    ·have hk32:k=32:=by omega
     have BX2:Blk wr g 29 (ag X).toArray:=by
      rw [hk32,aaH (by rw [hXl.out];exact aad _)] at BX;simpa [aF] using BX
     have hXs:(ag X).toArray.size=32:=(by rw [aae,ai,hXl.out]);clear hk32 BX;go_upto_region 12 with fail;apply wp_region_lit;refine wpList_load_row rfl 29 (.tmp 6) rfl g rfl 29 (ag X).toArray (0,0) _ BX2 bQ rfl (by rw [hXs];exact aW) ?_;refine wpList_store_row rfl 29 (.tmp 2) (.tmp 41) rfl W.heap.size (ag X).toArray rfl rfl 29 _ BD (by rw [hXs];exact aW) (by rw [hXs];rfl) (fK _) ?_;have hb9:=below_setRow hb (aad _) (ag X).toArray;have BD9:Blk (wr.setRow W.heap.size (ag X).toArray) W.heap.size 29 (ag X).toArray:=setRow_heap wr W.heap.size _ _ 29 _ BD;go_wp2_with fail;exact bodyPost_ret (v := .agg (ag X).toArray) (results_cell_row rfl _ _ W.heap.size 29 _ (0,0) _ rfl BD9 bQ rfl (by rw [hXs];exact aW)) rfl ⟨rfl,hb9⟩
theorem Sl.of_byts {w:World} {g:Nat} {t:TypeId} {l:List Nat} (h:Blk w g t (ag l).toArray):Rd w w.heap.size 1 (some ⟨g,0,none⟩) l.length (ag l) :=
 ⟨by rw [ai,aaA],fun _=>⟨g,0,rfl,h.lt,fun j u hu=>by rw [aax,h.cell];simpa using hu⟩⟩
theorem LW (s:ByteArray) (A:Option Addr) (n c:Nat) (l:List Nat) (W:World) (hA:Rd W W.heap.size 1 A n (ag l)) (hnil:A=none→n=0∧c=0) (ho:okB l) (hs:s.size≤1000000) (hn:n≤70368744177600) :
  Calls prog 108 #[.string s,.slice A n c] W (Ret (dig (dP (sb s) l)) W):=by
 obtain rfl:l.length=n:=by have:=hA.1;rw [ai,aaA] at this;exact this
 go_enter func108,ntmps108;have hcv:=fun (w:World)=>Lib.run_convert_string_bytes (P:=prog) w 9 83 5 s underlying9 underlying83 underlying5;go_upto_region 1 with fail;change Code.wp _ _ _ _ (W.alloc (.cells (ag (aF 32)).toArray 29));have BD:=Blk.new W 29 (ag (aF 32)).toArray _ rfl;have hb:=bAl (aj W) (.cells (ag (aF 32)).toArray 29);generalize W.alloc (.cells (ag (aF 32)).toArray 29)=w1 at *;go_wp2_with fail;refine (N7 _ _ _ (sb s) _ (by exact Az w1 _ s _ rfl) (by intro h;cases h) (MG s) (by omega)).mono ?_;rintro e w2 ⟨rfl,b2⟩;have hbB:=ah hb (jD w1 5 s);have hb2:=ah hbB b2;have BD2:Blk w2 W.heap.size 29 (ag (aF 32)).toArray:=(BD.below (jD w1 5 s) BD.lt).below b2 (by rw [Lib.bytesWorld_size];have:=BD.lt;omega);clear b2 hbB BD hb hcv;unfold dig;have st1:=ny (bM (sb s)) (bI _);have ln1:(ag (bM (sb s))).length=32:=by rw [ai,bI]
 go_upto_region 2 with fail;have BT:=Blk.new w2 29 (ag (bM (sb s))).toArray _ rfl;have hb3:=bAl hb2 (.cells (ag (bM (sb s))).toArray 29);have BD3:=BD2.alloc (.cells (ag (bM (sb s))).toArray 29);have hlt:W.heap.size<w2.heap.size:=BD2.lt;clear hb2 BD2 st1 ln1;generalize w2.alloc (.cells (ag (bM (sb s))).toArray 29)=w3 at *;generalize w2.heap.size=bt at *;have hTs:=bI (sb s);have hTo:=kE (sb s);have hT:Hid (dP (sb s) l=bM (bM (sb s)++l)):=aab rfl;generalize bM (sb s)=T at *;have HTs:=aab hTs;have hown0:=World.ownsRow_lit (base:=W.heap.size+1) (e:=5) (size:=1) w3 #[] 0 (aaj hlt (Nat.le_of_lt BT.lt)) (by unfold maxLen;omega) rfl;have hb4:=bAl hb3 (.cells #[] 5);have BD4:=BD3.alloc (.cells #[] 5);have hR4:Rd (w3.alloc (.cells #[] 5)) (w3.alloc (.cells #[] 5)).heap.size 1 (some ⟨bt,0,none⟩) 32 (ag T):=by have:=Sl.of_byts (BT.alloc (.cells #[] 5));rwa [hTs] at this
 have hone:=aZ (l:=T);have hone2:=aZ (l:=l);have hs4:W.heap.size+1≤(w3.alloc (.cells #[] 5)).heap.size:=BD4.lt;clear hTs hb3 BD3 BT
 go_wp2_with (at_builtin;first
  | (refine bT (.tmp 9) (.tmp 10) 83 (W.heap.size+1) 5 (.int .u8 0) 1 1 _ 0 _ (some ⟨bt,0,none⟩) 32 32 (w3.alloc (.cells #[] 5)).heap.size (ag T) rfl rfl underlying83 bG rfl (by omega) rfl hown0 rfl hR4 (by intro h;cases h) hone (by unfold maxLen;omega) (by omega) hs4 ?_;intro v5 w5 hown5 hg5;have b5:=hg5.below hown0 hs4;have hb5:=hb4.trans (b5.mono (by omega));have BD5:=BD4.below b5 (by omega);have hA5:=hA.below hb5;have hs5:W.heap.size+1≤w5.heap.size:=aaj hs4 hg5.size)
  | (refine bT (.tmp 11) (.tmp 12) 83 (W.heap.size+1) 5 (.int .u8 0) 1 1 v5 (0+32) _ A l.length c W.heap.size (ag l) rfl rfl underlying83 bG rfl (by omega) rfl hown5 rfl hA5 hnil hone2 (by unfold maxLen;omega) (by omega) hs5 ?_;intro v6 w6 hown6 hg6;have b6:=hg6.below hown5 hs5;have hb6:=hb5.trans (b6.mono (by omega));have BD6:=BD5.below b6 (by omega);obtain ⟨A6,c6,hv6,hR6,hc6,hc62,hn6⟩:=Sl.of_own hown6;subst hv6))
 obtain ⟨X,hX⟩:∃ X,Hid (X=T++l):=⟨_,aab rfl⟩
 have hXl:Hid (X.length=0+32+l.length):=by show _=_;rw [hX.out,aan,HTs.out]
 have hR7:Rd w6 w6.heap.size 1 A6 (0+32+l.length) (ag X):=by
  have e:ag X=[]++ag T++ag l:=by rw [hX.out];simp [ag]
  rw [e];exact hR6
 have q:=N7 A6 _ c6 X w6 hR7 hn6 (by rw [hX.out];exact mP hTo ho) (by omega);rw [←hX.out] at hT;clear hR6 hR7 hown6 hown5 hown0 hg6 hg5 BD5 BD4 b5 b6 hb5 hb4 hA5 hs5 hs4 hn6 hR4;refine q.mono ?_;rintro e w7 ⟨rfl,b7⟩;have hb7:=ah hb6 b7;have BD7:=BD6.below b7 BD6.lt;clear q;dsimp only
 (refine ‹∀ (a:Act) (w:World),wpList _ _ _ _ a w→_› _ _ ?_)
 refine wpList_store_row rfl 29 (.tmp 4) (.tmp 14) rfl W.heap.size (ag (bM X)).toArray rfl rfl 29 _ BD7 (by rw [aae,ai,bI];exact aW) (by rw [aae,aae,ai,ai,bI];rfl) (fK _) ?_;have hb9:=below_setRow hb7 (aad _) (ag (bM X)).toArray;have BD9:Blk (w7.setRow W.heap.size (ag (bM X)).toArray) W.heap.size 29 (ag (bM X)).toArray:=setRow_heap w7 W.heap.size _ _ 29 _ BD7;go_wp2_with fail;exact bodyPost_ret (v:=dig (bM X)) (results_cell_row rfl _ _ W.heap.size 29 _ (0,0) _ rfl BD9 bQ rfl (by rw [aae,ai,bI];exact aW)) rfl ⟨by unfold dig;rw [hT.out],hb9⟩
end Go.Proofs.YthbibbkbaphpkaaGreatDoor

/- Slices cut: their first elements, their cells, their room. -/
import Derived.Test.YthbibbkbaphpkaaGreatDoorMaa
import Derived.Laws.AppendOwnNone
import Derived.OwnWalk
import Derived.Lib.AppendZerosOnto
import Derived.Lib.ConvBytes
import Derived.Maps.AppendAt
set_option maxHeartbeats 16000000
set_option maxRecDepth 1000000
namespace Go.Proofs.YthbibbkbaphpkaaGreatDoor
open _root_.Go.Proofs.Tryz
section
open Go.RowKit Go.Deep
theorem Rd.pre {w:World} {B sz n:Nat} {A:Option Addr} {xs:List Value} (h:Rd w B sz A n xs) (k:Nat) (hk:k≤n):Rd w B sz A k (xs.take (k*sz)):=by
 refine ⟨?_,fun h0=>?_⟩
 ·rw [aav,h.1]
  exact Nat.min_eq_left (Nat.mul_le_mul_right _ hk)
 ·obtain ⟨b,off,e,hb,hc⟩:=h.2 (by omega)
  refine ⟨b,off,e,hb,fun j u hu=>hc j u ?_⟩;rw [aa6] at hu
  split at hu
  ·exact hu
  ·cases hu
end
section
open Go.RowKit
theorem yM (s:S8) (L:List Nat) (m:Nat):∀ j,bH s L (m+j)=bH (bH s L m) (L.drop (64*m)) j
 | 0=>rfl
 | j+1=>by
  show jr (bH s L (m+j)) ((L.drop (64 * (m+j))).take 64)=jr (bH (bH s L m) (L.drop (64*m)) j) (((L.drop (64*m)).drop (64*j)).take 64);rw [yM s L m j,List.drop_drop,Nat.mul_add]
theorem yN (s:S8) (l p:List Nat):∀ m,64*m≤l.length→bH s (l++p) m=bH s l m
 | 0,_=>rfl
 | m+1,h=>by
  show jr (bH s (l++p) m) (((l++p).drop (64*m)).take 64)=jr (bH s l m) ((l.drop (64*m)).take 64);rw [yN s l p m (by omega),List.drop_append_of_le_length (by omega),abm (by rw [aa1];omega)]
theorem tC (n:Nat):∀ k,∀ x∈bJ n k,x<256
 | 0,x,h=>by cases h
 | k+1,x,h=>by
  rcases aaL.1 h with h | h
  ·exact tC (n / 256) k x h
  ·rw [List.mem_singleton.1 h];exact aaC _ (by decide)
theorem Qs (n:Nat):(qU n).length=9+(119 - n % 64) % 64:=by
 unfold qU;simp [iw];omega
def uK (l:List Nat):List Nat:=l.drop (64 * (l.length / 64))++qU l.length
theorem Gu (l:List Nat):bM l=(bH (bH iq l (l.length / 64)) (uK l) (if l.length % 64≤55 then 1 else 2)).list.flatMap fun v=>bJ v 4:=by
 unfold bM;have e:(l.length+72) / 64=l.length / 64+(if l.length % 64≤55 then 1 else 2):=by split <;> omega
 rw [e,yM,yN _ _ _ _ (by omega),List.drop_append_of_le_length (by omega)];rfl
theorem EN (n:Nat):okB (qU n):=by
 intro x hx;unfold qU at hx;simp only [aaq,aaL,List.mem_replicate] at hx;rcases hx with rfl | ⟨_,rfl⟩ | hx
 ·decide
 ·decide
 ·exact tC _ 8 x hx
theorem mP {a b:List Nat} (ha:okB a) (hb:okB b):okB (a++b):=fun x hx=>by
 rw [aaL] at hx;exact hx.elim (ha x) (hb x)
theorem vO {l:List Nat} (h:okB l) (k:Nat):okB (l.take k):=fun x hx=>h x (abv hx)
def aF (k:Nat):List Nat:=List.replicate k 0
theorem eH (k:Nat):(aF k).length=k:=by simp [aF]
theorem uM (a b:Nat):aF (a+b)=aF a++aF b:=by simp [aF]
theorem Qu (w:World):(Instr.makeSlice 83 (.int .i64 64) (.int .i64 128)).run prog w = .ok (.slice (some ⟨w.heap.size,0,none⟩) 64 128) (w.alloc (.cells (ag (aF 128)).toArray 5)):=by kernel_rfl
theorem Gv {rest:List Nat} : splice (ag (aF 128)) 0 (ag rest)=ag (rest++aF (128 - rest.length)):=by
 unfold splice ag;rw [abj,aaJ,aaT,aax,aaQ,←List.map_drop];congr 2;unfold aF;rw [List.drop_replicate]
theorem Qv {rest:List Nat} {n:Nat} (h:rest.length=n) (h2:n<128):(ag (rest++aF (128 - n))).set n (.int .u8 128)=ag (rest++128::aF (127 - n)):=by
 subst h;have e:128 - rest.length=(127 - rest.length)+1:=by omega
 rw [e];unfold ag aF;rw [List.replicate_succ,aaT,abw _ _ (by simp)]
 simp
theorem Ov {l rest:List Nat} {r n:Nat} (h:rest=l.drop (64 * (l.length / 64))) (hr:rest.length=r) (hr2:r=l.length % 64) (hn:l.length=n) :
  Hid (uK l=rest++128::(aF (if r≤55 then 55 - r else 119 - r)++bJ (n*8 % 18446744073709551616) 8)):=by
 show _=_;unfold uK qU;rw [←h,←hr2,hn]
 have:(119 - r) % 64=if r≤55 then 55 - r else 119 - r:=by
  have:r<64:=by omega
  split <;> omega
 rw [this];rfl
theorem Gw {rest:List Nat} {a z p:Nat} (h:a=z+8+p):Hid (ag (rest++128::aF a)=ag (rest++128::aF z)++ag (aF 8)++ag (aF p)):=by
 show _=_;subst h;rw [uM,uM];simp [ag]
theorem DJ {w:World} {g off k:Nat} {t:TypeId} {E:List Nat} {p:List Nat} (h:Blk w g t (ag (E++p)).toArray) (hk:off+k≤E.length):Rd w w.heap.size 1 (some ⟨g,off,none⟩) k (ag ((E.drop off).take k)):=by
 refine ⟨by rw [ai,aav,aa1];omega,fun _=>⟨g,off,rfl,h.lt,fun j u hu=>?_⟩⟩
 have hj:j<k:=by
  have:=(aag.1 hu).1
  rw [ai,aav] at this;omega
 rw [h.cell];simp only [aaG];unfold ag at hu ⊢;rw [aaD] at hu ⊢;rw [aa6,if_pos hj,List.getElem?_drop] at hu;rw [aaO (by omega)];exact hu
theorem DK (s:S8) (ho:s.ok) (t:Nat) (ht:t<8):∃ v,s.list[t]?=some v∧v<4294967296∧∀ w:World,(Instr.index 274 (.agg #[.int .u32 s.a,.int .u32 s.b,.int .u32 s.c,.int .u32 s.d,.int .u32 s.e,.int .u32 s.f,.int .u32 s.g,.int .u32 s.h]) (.int .i64 t)).run prog w = .ok (.int .u32 (v:Nat)) w:=by
 have h8:t=0∨t=1∨t=2∨t=3∨t=4∨t=5∨t=6∨t=7:=by omega
 obtain ⟨o0,o1,o2,o3,o4,o5,o6,o7⟩:=ho;rcases h8 with rfl | rfl | rfl | rfl | rfl | rfl | rfl | rfl <;> exact ⟨_,rfl,by assumption,fun w=>by kernel_rfl⟩
theorem MF {l:List Nat} {t v:Nat} (hv:l[t]?=some v) (ht:t<8) :
  Hid (ag ((l.take t).flatMap (fun v=>bJ v 4)++aF (32 - 4*t))=ag ((l.take t).flatMap fun v=>bJ v 4)++ag (aF 4)++ag (aF (28 - 4*t)) ∧
   ag ((l.take t).flatMap fun v=>bJ v 4)++ag (bJ v 4)++ag (aF (28 - 4*t))=ag ((l.take (t+1)).flatMap (fun v=>bJ v 4)++aF (32 - 4 * (t+1)))):=by
 obtain ⟨hk,rfl⟩:=aag.1 hv;refine ⟨?_,?_⟩
 ·have e:32 - 4*t=4+(28 - 4*t):=by omega
  rw [e,uM];simp [ag]
 ·have e:32 - 4 * (t+1)=28 - 4*t:=by omega
  rw [e,aaB hk,aaP];simp [ag]
theorem DL (g t:Nat) (ht:t<8) (w:World):(Instr.sliceAt 29 (.pointer (some ⟨g,0,none⟩)) (some (.int .i64 (4 * (t:Int)))) (some (.int .i64 (4 * (t:Int)+4))) none).run prog w = .ok (.slice (some ⟨g,4*t,none⟩) 4 (32 - 4*t)) w:=by
 have h8:t=0∨t=1∨t=2∨t=3∨t=4∨t=5∨t=6∨t=7:=by omega
 rcases h8 with rfl | rfl | rfl | rfl | rfl | rfl | rfl | rfl <;> (show Sem.run _ _ _=_;kernel_rfl)
theorem bQ:prog.underlying 29=some (.array 32 5):=by kernel_rfl
theorem aW:(prog.info? 29).map (·.size)=some 32:=by kernel_rfl
theorem fK (l:List Nat):(ag l).toArray.all (·.oneCell')=true:=by
 rw [abC];intro v hv;rw [List.mem_toArray] at hv;obtain ⟨x,_,rfl⟩:=aaK.1 hv;rfl
theorem sum_any (A:Option Addr) (n c:Nat) (l:List Nat) (W:World) (hA:Rd W W.heap.size 1 A n (ag l)) (ho:okB l) (hc:n≤c) (hc2:c≤9223372036854775807) (hG:ShaG W) :
  Calls prog 193 #[.slice A n c] W (Ret (.agg (ag (bM l)).toArray) W):=by
 have hl:Hid (l.length=n):=by have:=hA.1;rw [ai,aaA] at this;exact this
 have g0:=hG.2.1 0 iq.a rfl;have g1:=hG.2.1 1 iq.b rfl;have g2:=hG.2.1 2 iq.c rfl;have g3:=hG.2.1 3 iq.d rfl;have g4:=hG.2.1 4 iq.e rfl;have g5:=hG.2.1 5 iq.f rfl;have g6:=hG.2.1 6 iq.g rfl;have g7:=hG.2.1 7 iq.h rfl;have gw:=hG.2.2.2;go_enter func193,ntmps193;go_wp2_with fail;clear g0 g1 g2 g3 g4 g5 g6 g7;change Code.wp _ _ _ _ ((W.alloc (.cells (ag (List.replicate 32 0)).toArray 29)).alloc (.cells (bY iq.list).toArray 274));have BD:=(Blk.new W 29 (ag (List.replicate 32 0)).toArray _ rfl).alloc (.cells (bY iq.list).toArray 274);have BS:=Blk.new (W.alloc (.cells (ag (List.replicate 32 0)).toArray 29)) 274 (bY iq.list).toArray (W.heap.size+1) (by simp);have hb:=bAl (bAl (aj W) (.cells (ag (List.replicate 32 0)).toArray 29)) (.cells (bY iq.list).toArray 274);generalize (W.alloc (.cells (ag (List.replicate 32 0)).toArray 29)).alloc (.cells (bY iq.list).toArray 274)=w1 at *;go_loopw [5] (fun v wr=>∃ (k:Nat) (A':Option Addr) (n' c':Nat),v = .slice A' n' c'∧Below W.heap.size W wr∧Blk wr W.heap.size 29 (ag (List.replicate 32 0)).toArray∧Blk wr (W.heap.size+1) 274 (bY (bH iq l k).list).toArray∧Rd wr W.heap.size 1 A' n' (ag (l.drop (64*k)))∧n'≤c'∧c'≤c∧Hid (64*k+n'=n)) (fun v _=>match v with | .slice _ m _=>m | _=>0)
 case atStart=>exact ⟨0,_,_,_,rfl,hb,BD,BS,hA.below hb,hc,aad _,by show 64*0+n=n;omega⟩
 case round =>
  clear hb BD BS;obtain ⟨k,A',n',c',rfl,hb,BD,BS,hR,hn',hcc,hkn⟩:=hrel;by_cases hlt:64≤n'
  ·have hA64:Rd wr wr.heap.size 1 A' 64 (ag ((l.drop (64*k)).take 64)):=by
    have h:=(hR.more hb.size).pre 64 hlt;rw [aaA] at h;have e:ag ((l.drop (64*k)).take 64)=(ag (l.drop (64*k))).take 64:=(by simp [ag]);rw [e];exact h
   obtain ⟨b,off,rfl,hbb,_⟩:=hR.2 (by omega);have q:=uJ (W.heap.size+1) c' (some ⟨b,off,none⟩) (bH iq l k) _ wr BS (iU vK k) hA64 (vO (kQ ho _) 64) (by omega) (by omega) (hG.below hb);clear hA64;go_wp2_with fail;refine q.mono ?_;rintro e w2 ⟨rfl,hg2,BS2⟩;clear q;have hb2:=hb.grown hg2 hb.size (fun q e=>by cases e;omega);have BD2:Blk w2 W.heap.size 29 (ag (List.replicate 32 0)).toArray:=(hg2.block _ BD.lt (by simp)).trans BD;have hR2:Rd w2 W.heap.size 1 (some ⟨b,off,none⟩) n' (ag (l.drop (64*k))):=hR.keep fun p hp=>World.cell?_of_block (hg2.block _ (aaS hp hb.size) (by intro e;injection e with e;omega));have hdr:Hid (ag (l.drop (64 * (k+1)))=(ag (l.drop (64*k))).drop (64*1)):=(by show _=_;simp [ag,List.drop_drop,Nat.mul_add]);clear hb BD BS hR hg2;by_cases hcap:c'=64
   ·have hn64:n'=64:=by omega
    subst hcap;subst hn64;go_wp2_with fail;go_roundw
    case rel=>exact ⟨k+1,_,0,0,rfl,hb2,BD2,BS2,⟨by rw [ai,aa1,hl.out];have:=hkn.out;omega,fun h=>absurd h (by omega)⟩,by omega,by omega,by have:=hkn.out;show _=_;omega⟩
    case measure=>show 0<64;omega
   ·go_wp2_with fail
    go_roundw
    case rel=>exact ⟨k+1,some ⟨b,off+64*1,none⟩,n' - 64,c' - 64,rfl,hb2,BD2,BS2,by rw [hdr.out];exact hR2.cut 64 hlt,by omega,by omega,by have:=hkn.out;show _=_;omega⟩
    case measure=>show n' - 64<n';omega
  ·have hn64:n'<64:=by omega
   have hend:Hid (ag (l.drop (64*k))=ag (l.drop (64 * (l.length / 64)))∧k=l.length / 64∧n'=l.length % 64):=by
    have h:=hkn.out;rw [←hl.out] at h;have e:k=l.length / 64:=(by omega);exact ⟨by rw [←e],e,by omega⟩
   have hmk:=Qu;go_upto_region 8 with fail;have BE:=Blk.new wr 5 (ag (aF 128)).toArray _ rfl;have hb2:=bAl hb (.cells (ag (aF 128)).toArray 5);have BD2:=BD.alloc (.cells (ag (aF 128)).toArray 5);have BS2:=BS.alloc (.cells (ag (aF 128)).toArray 5);have hwe:W.heap.size+1<wr.heap.size:=BS.lt;have hR2:=hR.alloc hb.size (.cells (ag (aF 128)).toArray 5);clear hb BD BS hR hmk;generalize wr.alloc (.cells (ag (aF 128)).toArray 5)=w2 at *;generalize wr.heap.size=we at *;rw [hend.out.1] at hR2;obtain ⟨rest,hrest⟩:∃ rest,Hid (rest=l.drop (64 * (l.length / 64))):=⟨_,aab rfl⟩
   rw [←hrest.out] at hR2;have hrl:Hid (rest.length=n'):=(by have:=hR2.1;rw [ai,aaA] at this;exact this);apply wp_region_lit
   iterate 6 go_step
   refine wpList_copy_splice rfl (.tmp 22) (.tmp 23) 83 83 rfl 5 underlying83 (by kernel_rfl) _ _ _ _ _ _ rfl rfl we 0 (ag (aF 128)) 5 BE (ag rest) ?c1 ?c2 ?c3 ?c4 we w2 (Below.refl _ _) (aad _) ?_
   case c1=>rw [ai,hrl.out];exact (Nat.min_eq_left (by omega)).symm
   case c2 =>
    intro h0;obtain ⟨b,off,rfl,hbb,hcc2⟩:=hR2.2 (by rw [ai,hrl.out] at h0;exact h0);refine ⟨rfl,_,rfl,fun j v hj=>?_⟩
    have ha:(⟨b,off,none⟩:Addr).add j=⟨b,off+j,none⟩:=by
     unfold Addr.add
     split
     ·rename_i h;rw [h];rfl
     ·rfl
    rw [ha];exact hcc2 j v hj
   case c3=>rw [ai,ai,hrl.out,eH];omega
   case c4=>intro v hv;obtain ⟨x,_,rfl⟩:=aaK.1 hv;rfl
   intro w3 H3 hb3
   have BE3:Blk w3 we 5 (ag (rest++aF (128 - n'))).toArray:=by
    have h:=H3.out;rw [Gv,hrl.out] at h;exact h
   have hweW:W.heap.size≤we:=(by omega);have hb4:Below W.heap.size W w3:=hb2.trans (hb3.mono hweW);have BD3:Blk w3 W.heap.size 29 (ag (List.replicate 32 0)).toArray:=BD2.below hb3 (by omega);have BS3:Blk w3 (W.heap.size+1) 274 (bY (bH iq l k).list).toArray:=BS2.below hb3 (by omega);clear BE H3 hb2 hb3 BD2 BS2 hR2
   obtain ⟨v0,hv0⟩:∃ v,w3.cell? ⟨we,n',none⟩=some v:=by
    rw [BE3.cell];simp only [aaG];exact ⟨_,aac (by rw [ai,aan,eH,hrl.out];omega)⟩
   have hz0:=BE3.frozen n';have BE4:=BE3.set_ n' (.int .u8 128);rw [aaf,Qv hrl.out (by omega)] at BE4;have hb5:=zQ7 hb4 (p:=⟨we,n',none⟩) hweW (.int .u8 128);have BD4:=BD3.far (p:=⟨we,n',none⟩) (by show W.heap.size≠we;omega) (.int .u8 128);have BS4:=BS3.far (p:=⟨we,n',none⟩) (by show W.heap.size+1≠we;omega) (.int .u8 128);clear BE3 hb4 BD3 BS3;have ZR:=Ov hrest.out hrl.out hend.out.2.2 hl.out;have hu:IntKind.u64.wrap ((n:Int)*8)=((n*8 % 18446744073709551616:Nat):Int):=(by rw [IntKind.wrap_u64];omega);have HU:=aab hu;clear hu;by_cases h55:n'≤55
   ·have h55':decide ((55:Int)<(n':Int))=false:=by simp;omega
    have hp:Hid (ag (rest++128::aF (127 - n'))=ag (rest++128::aF (55 - n'))++ag (aF 8)++ag (aF 64)):=Gw (by omega);have hZ:Hid (uK l=(rest++128::aF (55 - n'))++bJ (n*8 % 18446744073709551616) 8):=(by show _=_;rw [ZR.out,if_pos h55];simp);have hL:Hid ((uK l).length=64):=by show _=_;rw [hZ.out];simp [iw,eH,hrl.out];omega
    have hS:Hid (bM l=(bH (bH iq l k) (uK l) 1).list.flatMap fun v=>bJ v 4):=by
     show _=_;rw [Gu,←hend.out.2.1,←hend.out.2.2,if_pos h55]
    rw [hp.out] at BE4;clear ZR;go_wp2_with fail;rw [HU.out];clear hv0 hz0;generalize w3.setCell ⟨we,n',none⟩ (.int .u8 128)=w4 at *;have hlp:(ag (rest++128::aF (55 - n'))).length=56:=(by simp [ai,eH,hrl.out];omega);refine (put_any we 56 8 72 _ 5 _ (ag (aF 8)) (ag (aF 64)) w4 BE4 hlp rfl (by omega)).mono ?_;rintro e w5 ⟨rfl,hg5,BE5⟩
    have BE6:Blk w5 we 5 (ag (uK l++aF 64)).toArray:=by
     rw [hZ.out];simpa [ag] using BE5
    have hg5W:∀ q,some we=some q→W.heap.size≤q:=fun q e=>(by cases e;exact hweW);have hb6:=hb5.grown hg5 hb5.size hg5W;have BD6:Blk w5 W.heap.size 29 (ag (List.replicate 32 0)).toArray:=(hg5.block _ BD4.lt (by intro e;injection e with e;omega)).trans BD4;have BS6:Blk w5 (W.heap.size+1) 274 (bY (bH iq l k).list).toArray:=(hg5.block _ BS4.lt (by intro e;injection e with e;omega)).trans BS4;clear BE4 BE5 hb5 BD4 BS4 hg5 hg5W HU;obtain ⟨s0,hs0⟩:∃ s0,Hid (s0=bH iq l k):=⟨_,aab rfl⟩
    have hs0k:s0.ok:=(by rw [hs0.out];exact iU vK k);rw [←hs0.out] at BS6 hS;have hoE:okB (uK l):=mP (kQ ho _) (EN _);obtain ⟨E,hE⟩:∃ E,Hid (E=uK l):=⟨_,aab rfl⟩
    rw [←hE.out] at BE6 hL hS hoE;go_wp2_with fail;go_loopw [6] (fun v wr=>∃ (j:Nat) (A':Option Addr) (m c':Nat),v = .slice A' m c'∧(0<m→A'=some ⟨we,64*j,none⟩)∧Below W.heap.size W wr∧Blk wr W.heap.size 29 (ag (List.replicate 32 0)).toArray∧Blk wr (W.heap.size+1) 274 (bY (bH s0 E j).list).toArray∧Blk wr we 5 (ag (E++aF 64)).toArray∧m≤c'∧c'≤128∧Hid (64*j+m=64)) (fun v _=>match v with | .slice _ m _=>m | _=>0)
    case atStart=>exact ⟨0,_,_,_,rfl,fun _=>rfl,hb6,BD6,BS6,BE6,by omega,by omega,by show _=_;omega⟩
    case round =>
     clear hb6 BD6 BS6 BE6;obtain ⟨j,A2,m,c2,rfl,hA2,hb,BD,BS,BE,hmc,hc128,hjm⟩:=hrel;by_cases hm:0<m
     ·have hm64:64≤m:=by have:=hjm.out;omega
      obtain rfl:=hA2 hm;have hR:Rd wr wr.heap.size 1 (some ⟨we,64*j,none⟩) 64 (ag ((E.drop (64*j)).take 64)):=DJ BE (by have:=hjm.out;rw [hL.out];omega);have q:=uJ (W.heap.size+1) c2 (some ⟨we,64*j,none⟩) (bH s0 E j) _ wr BS (iU hs0k j) hR (vO (kQ hoE _) 64) (by omega) (by omega) (hG.below hb);clear hR hA2;go_wp2_with fail;refine q.mono ?_;rintro e w6 ⟨rfl,hg6,BS7⟩;clear q;have hb7:=hb.grown hg6 hb.size (fun q e=>by cases e;omega);have BD7:Blk w6 W.heap.size 29 (ag (List.replicate 32 0)).toArray:=(hg6.block _ BD.lt (by simp)).trans BD;have BE7:Blk w6 we 5 (ag (E++aF 64)).toArray:=(hg6.block _ BE.lt (by intro e;injection e with e;omega)).trans BE;clear hb BD BS BE hg6;by_cases hcap:c2=64
      ·have hn64:m=64:=by omega
       subst hcap;subst hn64;go_wp2_with fail;go_roundw
       case rel=>exact ⟨j+1,_,0,0,rfl,fun h=>absurd h (by omega),hb7,BD7,BS7,BE7,by omega,by omega,by have:=hjm.out;show _=_;omega⟩
       case measure=>show 0<64;omega
      ·go_wp2_with fail
       go_roundw
       case rel=>exact ⟨j+1,some ⟨we,64*j+64,none⟩,m - 64,c2 - 64,rfl,fun _=>by rw [Nat.mul_add],hb7,BD7,BS7,BE7,by omega,by omega,by have:=hjm.out;show _=_;omega⟩
       case measure=>show m - 64<m;omega
     ·have hj:j=1:=by have:=hjm.out;omega
      rw [hj] at BS;obtain ⟨st,hst⟩:∃ st,Hid (st=bH s0 E 1):=⟨_,aab rfl⟩
      rw [←hst.out] at BS hS;obtain ⟨q0,q1,q2,q3,q4,q5,q6,q7⟩:=kR BS;have hso:st.ok:=(by rw [hst.out];exact iU hs0k _);clear hj hjm hA2 BE;go_wp2_with fail;clear q0 q1 q2 q3 q4 q5 q6 q7 BS;go_loopw [54] (fun i wr=>∃ t:Nat,t≤8∧i = .int .i64 t∧Below W.heap.size W wr∧Blk wr W.heap.size 29 (ag ((st.list.take t).flatMap (fun v=>bJ v 4)++aF (32 - 4*t))).toArray) (fun i _=>8 - (intOf i).toNat)
      case atStart=>exact ⟨0,by omega,rfl,hb,BD⟩
      case round =>
       clear hb BD;obtain ⟨t,ht8,rfl,hb,BD⟩:=hrel;by_cases hlt:t<8
       ·obtain ⟨v,hv,hv32,hidx⟩:=DK st hso t hlt
        have hrow:=MF (l:=st.list) (v:=v) hv (by show t<8;exact hlt);have BD2:=BD;rw [hrow.out.1] at BD2;have it:(t:Int)<8:=(by omega);have hpl:Hid ((ag ((st.list.take t).flatMap fun v=>bJ v 4)).length=4*t):=(by show _=_;rw [ai,pq,aav];show 4*min t 8=4*t;omega);have hsl:=DL W.heap.size t hlt;have hH:=aab hrow.out.2;clear hrow;go_wp2_with fail;refine (put_any W.heap.size (4*t) 4 (32 - 4*t) v 29 _ (ag (aF 4)) (ag (aF (28 - 4*t))) wr BD2 hpl.out rfl (by omega)).mono ?_;rintro e w6 ⟨rfl,hg6,BD6⟩
        have BD7:Blk w6 W.heap.size 29 (ag ((st.list.take (t+1)).flatMap (fun v=>bJ v 4)++aF (32 - 4 * (t+1)))).toArray:=by
         rw [←hH.out];exact BD6
        have hb7:=hb.grown hg6 hb.size (fun q e=>by cases e;omega);clear hb BD BD2 BD6 hg6;go_wp2_with fail;go_roundw
        case rel=>exact ⟨t+1,by omega,by go_num,hb7,BD7⟩
        case measure=>simp [intOf];omega
       ·have ht:t=8:=by omega
        have BD8:Blk wr W.heap.size 29 (ag (bM l)).toArray:=by
         rw [ht] at BD;rw [hS.out];simpa [aF,S8.list] using BD
        clear ht BD;go_upto_region 21 with fail;apply wp_region_lit;refine wpList_load_row rfl 29 (.tmp 2) rfl W.heap.size rfl 29 (ag (bM l)).toArray (0,0) _ BD8 bQ rfl (by rw [aae,ai,bI];exact aW) ?_;refine wpList_store_row rfl 29 (.tmp 2) (.tmp 68) rfl W.heap.size (ag (bM l)).toArray rfl rfl 29 _ BD8 (by rw [aae,ai,bI];exact aW) rfl (fK _) ?_;have hb9:=below_setRow hb (aad _) (ag (bM l)).toArray;have BD9:Blk (wr.setRow W.heap.size (ag (bM l)).toArray) W.heap.size 29 (ag (bM l)).toArray:=setRow_heap wr W.heap.size _ _ 29 _ BD8;go_wp2_with fail;exact bodyPost_ret (v := .agg (ag (bM l)).toArray) (results_cell_row rfl _ _ W.heap.size 29 _ (0,0) _ rfl BD9 bQ rfl (by rw [aae,ai,bI];exact aW)) rfl ⟨rfl,hb9⟩
   ·have h55':decide ((55:Int)<(n':Int))=true:=by simp;omega
    have hp:Hid (ag (rest++128::aF (127 - n'))=ag (rest++128::aF (119 - n'))++ag (aF 8)++ag (aF 0)):=Gw (by omega);have hZ:Hid (uK l=(rest++128::aF (119 - n'))++bJ (n*8 % 18446744073709551616) 8):=(by show _=_;rw [ZR.out,if_neg h55];simp);have hL:Hid ((uK l).length=128):=by show _=_;rw [hZ.out];simp [iw,eH,hrl.out];omega
    have hS:Hid (bM l=(bH (bH iq l k) (uK l) 2).list.flatMap fun v=>bJ v 4):=by
     show _=_;rw [Gu,←hend.out.2.1,←hend.out.2.2,if_neg h55]
    rw [hp.out] at BE4;clear ZR;go_wp2_with fail;rw [HU.out];clear hv0 hz0;generalize w3.setCell ⟨we,n',none⟩ (.int .u8 128)=w4 at *;have hlp:(ag (rest++128::aF (119 - n'))).length=120:=(by simp [ai,eH,hrl.out];omega);refine (put_any we 120 8 8 _ 5 _ (ag (aF 8)) (ag (aF 0)) w4 BE4 hlp rfl (by omega)).mono ?_;rintro e w5 ⟨rfl,hg5,BE5⟩
    have BE6:Blk w5 we 5 (ag (uK l++aF 0)).toArray:=by
     rw [hZ.out];simpa [ag] using BE5
    have hg5W:∀ q,some we=some q→W.heap.size≤q:=fun q e=>(by cases e;exact hweW);have hb6:=hb5.grown hg5 hb5.size hg5W;have BD6:Blk w5 W.heap.size 29 (ag (List.replicate 32 0)).toArray:=(hg5.block _ BD4.lt (by intro e;injection e with e;omega)).trans BD4;have BS6:Blk w5 (W.heap.size+1) 274 (bY (bH iq l k).list).toArray:=(hg5.block _ BS4.lt (by intro e;injection e with e;omega)).trans BS4;clear BE4 BE5 hb5 BD4 BS4 hg5 hg5W HU;obtain ⟨s0,hs0⟩:∃ s0,Hid (s0=bH iq l k):=⟨_,aab rfl⟩
    have hs0k:s0.ok:=(by rw [hs0.out];exact iU vK k);rw [←hs0.out] at BS6 hS;have hoE:okB (uK l):=mP (kQ ho _) (EN _);obtain ⟨E,hE⟩:∃ E,Hid (E=uK l):=⟨_,aab rfl⟩
    rw [←hE.out] at BE6 hL hS hoE;go_wp2_with fail;go_loopw [6] (fun v wr=>∃ (j:Nat) (A':Option Addr) (m c':Nat),v = .slice A' m c'∧(0<m→A'=some ⟨we,64*j,none⟩)∧Below W.heap.size W wr∧Blk wr W.heap.size 29 (ag (List.replicate 32 0)).toArray∧Blk wr (W.heap.size+1) 274 (bY (bH s0 E j).list).toArray∧Blk wr we 5 (ag (E++aF 0)).toArray∧m≤c'∧c'≤128∧Hid (64*j+m=128)) (fun v _=>match v with | .slice _ m _=>m | _=>0)
    case atStart=>exact ⟨0,_,_,_,rfl,fun _=>rfl,hb6,BD6,BS6,BE6,by omega,by omega,by show _=_;omega⟩
    case round =>
     clear hb6 BD6 BS6 BE6;obtain ⟨j,A2,m,c2,rfl,hA2,hb,BD,BS,BE,hmc,hc128,hjm⟩:=hrel;by_cases hm:0<m
     ·have hm64:64≤m:=by have:=hjm.out;omega
      obtain rfl:=hA2 hm;have hR:Rd wr wr.heap.size 1 (some ⟨we,64*j,none⟩) 64 (ag ((E.drop (64*j)).take 64)):=DJ BE (by have:=hjm.out;rw [hL.out];omega);have q:=uJ (W.heap.size+1) c2 (some ⟨we,64*j,none⟩) (bH s0 E j) _ wr BS (iU hs0k j) hR (vO (kQ hoE _) 64) (by omega) (by omega) (hG.below hb);clear hR hA2;go_wp2_with fail;refine q.mono ?_;rintro e w6 ⟨rfl,hg6,BS7⟩;clear q;have hb7:=hb.grown hg6 hb.size (fun q e=>by cases e;omega);have BD7:Blk w6 W.heap.size 29 (ag (List.replicate 32 0)).toArray:=(hg6.block _ BD.lt (by simp)).trans BD;have BE7:Blk w6 we 5 (ag (E++aF 0)).toArray:=(hg6.block _ BE.lt (by intro e;injection e with e;omega)).trans BE;clear hb BD BS BE hg6;by_cases hcap:c2=64
      ·have hn64:m=64:=by omega
       subst hcap;subst hn64;go_wp2_with fail;go_roundw
       case rel=>exact ⟨j+1,_,0,0,rfl,fun h=>absurd h (by omega),hb7,BD7,BS7,BE7,by omega,by omega,by have:=hjm.out;show _=_;omega⟩
       case measure=>show 0<64;omega
      ·go_wp2_with fail
       go_roundw
       case rel=>exact ⟨j+1,some ⟨we,64*j+64,none⟩,m - 64,c2 - 64,rfl,fun _=>by rw [Nat.mul_add],hb7,BD7,BS7,BE7,by omega,by omega,by have:=hjm.out;show _=_;omega⟩
       case measure=>show m - 64<m;omega
     ·have hj:j=2:=by have:=hjm.out;omega
      rw [hj] at BS;obtain ⟨st,hst⟩:∃ st,Hid (st=bH s0 E 2):=⟨_,aab rfl⟩
      rw [←hst.out] at BS hS;obtain ⟨q0,q1,q2,q3,q4,q5,q6,q7⟩:=kR BS;have hso:st.ok:=(by rw [hst.out];exact iU hs0k _);clear hj hjm hA2 BE;go_wp2_with fail;clear q0 q1 q2 q3 q4 q5 q6 q7 BS;go_loopw [54] (fun i wr=>∃ t:Nat,t≤8∧i = .int .i64 t∧Below W.heap.size W wr∧Blk wr W.heap.size 29 (ag ((st.list.take t).flatMap (fun v=>bJ v 4)++aF (32 - 4*t))).toArray) (fun i _=>8 - (intOf i).toNat)
      case atStart=>exact ⟨0,by omega,rfl,hb,BD⟩
      case round =>
       clear hb BD;obtain ⟨t,ht8,rfl,hb,BD⟩:=hrel;by_cases hlt:t<8
       ·obtain ⟨v,hv,hv32,hidx⟩:=DK st hso t hlt
        have hrow:=MF (l:=st.list) (v:=v) hv (by show t<8;exact hlt);have BD2:=BD;rw [hrow.out.1] at BD2;have it:(t:Int)<8:=(by omega);have hpl:Hid ((ag ((st.list.take t).flatMap fun v=>bJ v 4)).length=4*t):=(by show _=_;rw [ai,pq,aav];show 4*min t 8=4*t;omega);have hsl:=DL W.heap.size t hlt;have hH:=aab hrow.out.2;clear hrow;go_wp2_with fail;refine (put_any W.heap.size (4*t) 4 (32 - 4*t) v 29 _ (ag (aF 4)) (ag (aF (28 - 4*t))) wr BD2 hpl.out rfl (by omega)).mono ?_;rintro e w6 ⟨rfl,hg6,BD6⟩
        have BD7:Blk w6 W.heap.size 29 (ag ((st.list.take (t+1)).flatMap (fun v=>bJ v 4)++aF (32 - 4 * (t+1)))).toArray:=by
         rw [←hH.out];exact BD6
        have hb7:=hb.grown hg6 hb.size (fun q e=>by cases e;omega);clear hb BD BD2 BD6 hg6;go_wp2_with fail;go_roundw
        case rel=>exact ⟨t+1,by omega,by go_num,hb7,BD7⟩
        case measure=>simp [intOf];omega
       ·have ht:t=8:=by omega
        have BD8:Blk wr W.heap.size 29 (ag (bM l)).toArray:=by
         rw [ht] at BD;rw [hS.out];simpa [aF,S8.list] using BD
        clear ht BD;go_upto_region 21 with fail;apply wp_region_lit;refine wpList_load_row rfl 29 (.tmp 2) rfl W.heap.size rfl 29 (ag (bM l)).toArray (0,0) _ BD8 bQ rfl (by rw [aae,ai,bI];exact aW) ?_;refine wpList_store_row rfl 29 (.tmp 2) (.tmp 68) rfl W.heap.size (ag (bM l)).toArray rfl rfl 29 _ BD8 (by rw [aae,ai,bI];exact aW) rfl (fK _) ?_;have hb9:=below_setRow hb (aad _) (ag (bM l)).toArray;have BD9:Blk (wr.setRow W.heap.size (ag (bM l)).toArray) W.heap.size 29 (ag (bM l)).toArray:=setRow_heap wr W.heap.size _ _ 29 _ BD8;go_wp2_with fail;exact bodyPost_ret (v := .agg (ag (bM l)).toArray) (results_cell_row rfl _ _ W.heap.size 29 _ (0,0) _ rfl BD9 bQ rfl (by rw [aae,ai,bI];exact aW)) rfl ⟨rfl,hb9⟩
theorem dX (b off j:Nat):(⟨b,off,none⟩:Addr).add j=⟨b,off+j,none⟩:=by
 unfold Addr.add
 split
 ·rename_i h;rw [h];rfl
 ·rfl
theorem Ar {P:Program} {ops:Array Oper} {rest:List Oper} {o:Oper} {a:Act} {Q:Exit→Act→World→Prop} {w:World} (s x:Operand) (t:TypeId)
  (base:Nat) (e:TypeId) (z:Value) (size bytes:Nat) (v:Value) (n:Nat) (xs:List Value) (A:Option Addr) (m c B:Nat) (news:List Value) (hgd:o.guard=none)
  (ho:o.op = .call { callee := .builtin .append,args:=#[s,x],argTypes:=#[t,t] })
  (ht:P.underlying t=some (.slice e)) (hinfo:(P.info? e).map (fun i=>(i.zero,i.size,i.bytes))=some (some z,size,bytes)) (hzs:z.cells.size=size) (hsz:0<size)
  (hs:a.eval s=v) (hown:w.ownsRow base e size v n xs) (hx:a.eval x = .slice A m c) (hr:Rd w B size A m news) (hnil:A=none→m=0∧c=0) (h1:∀ u∈news,u.oneCell'=true)
  (h63:n+m≤maxLen) (hbytes:(n+m)*bytes≤140737488355328) (hbase:base≤w.heap.size)
  (h:∀ v' w',w'.ownsRow base e size v' (n+m) (xs++news)→Below base w w'→w.grownBy w' v.ownBlock→wpList P ops Q rest (a.put o.dst v') w') :
  wpList P ops Q (o::rest) a w:=by
 obtain ⟨i0,hi,hz0,hz1,hz2⟩:=info_parts hinfo;cases A with
 | none =>
  obtain ⟨rfl,rfl⟩:=hnil rfl;have hn0:news=[]:=abr (by rw [hr.1];simp);subst hn0;refine wpList_append_own_none hgd s x t ho base e i0 size ht hi v n xs hs hown hx ?_;exact h v w (by simpa using hown) (Below.refl _ _) (World.grownBy.refl _ _)
 | some ad =>
  refine wpList_append_own w hgd s x t ho base e i0 z size bytes ht hi hz0 hz1 hz2 hzs hsz v n xs hs hown ad m c news hx hr.1 ?_ h1 h63 hbytes hbase ?_
  ·intro j u hj
   rcases aa7 m with h0 | h0
   ·subst h0
    have hn0:news=[]:=abr (by rw [hr.1];simp);subst hn0;simp at hj
   ·obtain ⟨b,off,he,_,hc⟩:=hr.2 h0
    injection he with he
    subst he;rw [dX];exact hc j u hj
  ·intro v' w' hown' hgrow _
   refine h v' w' hown' ?_ hgrow;exact (Below.refl _ _).grown hgrow hbase (fun k hk=>(hown.lt k hk).1)
def Sl (w:World) (B sz:Nat) (v:Value) (n:Nat) (xs:List Value):Prop :=
 ∃ A c,v = .slice A n c∧Rd w B sz A n xs∧n≤c∧c≤9223372036854775807∧(A=none→n=0∧c=0)
section
variable {w w':World} {B B' sz n:Nat} {v:Value} {xs:List Value}
theorem Sl.below (h:Sl w B sz v n xs) (hb:Below B w w'):Sl w' B sz v n xs:=by
 obtain ⟨A,c,e,hr,h1,h2,h3⟩:=h;exact ⟨A,c,e,hr.below hb,h1,h2,h3⟩
theorem Sl.more (h:Sl w B sz v n xs) (hB:B≤B'):Sl w B' sz v n xs:=by
 obtain ⟨A,c,e,hr,h1,h2,h3⟩:=h;exact ⟨A,c,e,hr.more hB,h1,h2,h3⟩
theorem Sl.of_own {base:Nat} {e:TypeId} (h:w.ownsRow base e sz v n xs):Sl w w.heap.size sz v n xs:=by
 rcases h.2 with ⟨rfl,rfl⟩ | ⟨g,cap,cur,rfl,_,hg,hnc,hm,hsz,htk⟩
 ·exact ⟨none,0,rfl,⟨h.1,fun hn=>absurd hn (by omega)⟩,aad _,by omega,fun _=>⟨rfl,rfl⟩⟩
 ·refine ⟨_,_,rfl,⟨h.1,fun _=>⟨g,0,rfl,Blk.lt hg,fun j u hu=>?_⟩⟩,hnc,hm,fun h=>by cases h⟩
  rw [aax,Blk.cell hg];rw [←htk,aa6] at hu
  split at hu
  ·simpa using hu
  ·cases hu
theorem Sl.nil_:Sl w B sz (.slice none 0 0) 0 []:=⟨none,0,rfl,Rd.nil_,aad _,by omega,fun _=>⟨rfl,rfl⟩⟩
theorem Sl.of_blk {g off k c:Nat} {t:TypeId} {cs:List Value} {xs:List Value} (h:Blk w g t cs.toArray) (hx:∀ j u,xs[j]?=some u→cs[off+j]?=some u) (hl:xs.length=k*sz) (hk:k≤c) (hc:c≤9223372036854775807) :
  Sl w w.heap.size sz (.slice (some ⟨g,off,none⟩) k c) k xs :=
 ⟨_,_,rfl,⟨hl,fun _=>⟨g,off,rfl,h.lt,fun j u hu=>by rw [h.cell];simpa using hx j u hu⟩⟩,hk,hc,fun h=>by cases h⟩
end
def kL (sz n:Nat) (xs:List Value) (w:World) (r:Ending) (w':World):Prop:=∃ v,r = .returned v∧Below w.heap.size w w'∧Sl w' w'.heap.size sz v n xs
theorem bG:(prog.info? 5).map (fun i=>(i.zero,i.size,i.bytes))=some (some (.int .u8 0),1,1):=by kernel_rfl
theorem Qw (n:Nat) (w:World) (hn:n≤70368744177664) :
  Calls prog 245 #[.slice none 0 0,.int .i64 n] w fun r w'=>∃ v,r = .returned v∧Below w.heap.size w w'∧w'.ownsRow w.heap.size 5 1 v 0 []:=by
 rcases aa7 n with rfl | h0
 ·go_enter func245,ntmps245
  go_wp2
  go_ret;exact ⟨_,rfl,aj _,World.ownsRow_nil _ _ _ _⟩
 ·obtain ⟨i0,hi,hz0,hz1,hz2⟩:=info_parts bG
  have hrz:∀ ty,(Builtin.append_ #[83,3] ty #[.slice none 0 0,.int .i64 (n:Int)]).run prog w =
    .ok (.slice (some ⟨w.heap.size,0,none⟩) (0+n) (grownCap w (0+n) 0 5)) (w.drew.alloc (.cells (([]:List Value).toArray++Builtin.zeroCells (Value.int .u8 0).cells n++Builtin.zeroCells (Value.int .u8 0).cells (grownCap w (0+n) 0 5 - (0+n))) 5)):=fun ty =>
   Lib.run_append_grow_zeros (P:=prog) w 83 3 ty 5 i0 (.int .u8 0) .i64 .i64 underlying83 underlying3 hi hz0 none 0 0 [] (run_firstCells_none w.drew i0.size 0 0 0) n h0 (by omega) (by omega) (by omega) (by rw [hz2];omega)
    (by rw [hz2];exact growslice_fits (by omega) (by omega))
  have hGn:0+n≤grownCap w (0+n) 0 5:=grownCap_ge w _ _ _;have hG63:=grownCap_le_maxLen w (0+n) 0 5 (by unfold maxLen;omega);have hz:(Value.int .u8 0).cells.size=1:=rfl;obtain ⟨G,hG⟩:∃ G,G=grownCap w (0+n) 0 5:=⟨_,rfl⟩
  obtain ⟨cur,hcur⟩:∃ cur,cur=(([]:List Value).toArray++Builtin.zeroCells (Value.int .u8 0).cells n++Builtin.zeroCells (Value.int .u8 0).cells (G - (0+n))):=⟨_,rfl⟩
  have hsz:Hid (cur.size=G*1):=by
   show _=_;rw [hcur];have e:∀ k,(Builtin.zeroCells (Value.int .u8 0).cells k).size=k:=fun k=>(by rw [size_zeroCells,hz];omega);rw [Array.size_append,Array.size_append,e,e];rw [←hG] at hGn
   simp
   omega
  rw [←hG] at hrz hGn hG63;rw [←hcur] at hrz;rw [aax] at hrz hGn;clear hG hcur;go_enter func245,ntmps245;go_wp2_with (at_builtin;refine Lib.wpList_append_run _ rfl _ _ _ _ rfl _ _ rfl rfl _ _ (hrz _) ?_)
  go_ret;refine ⟨_,rfl,bDr (bAl (aj _) _),rfl,.inr ⟨w.heap.size,G,cur,rfl,aad _,?_,aao _,hG63,hsz.out,by simp⟩⟩;exact Blk.new w 5 cur _ rfl
structure BSl where
 A:Option Addr
 c:Nat
 l:List Nat
def BSl.val (x:BSl):Value := .slice x.A x.l.length x.c
def BSl.ok (w:World) (x:BSl):Prop:=Rd w w.heap.size 1 x.A x.l.length (ag x.l)∧(x.A=none→x.l.length=0∧x.c=0)
def iH (xs:List BSl):List Nat:=xs.flatMap BSl.l
theorem Jz (xs:List BSl) (x:BSl):iH (xs++[x])=iH xs++x.l:=by simp [iH]
theorem Aw {xs:List BSl} {k:Nat} {x:BSl} (h:xs[k]?=some x):iH (xs.take (k+1))=iH (xs.take k)++x.l:=by
 obtain ⟨hk,rfl⟩:=aag.1 h;rw [aaB hk,Jz]
theorem vP (xs:List BSl) (k:Nat):(iH (xs.take k)).length≤(iH xs).length:=by
 have h:iH xs=iH (xs.take k)++iH (xs.drop k):=by
  unfold iH;rw [←aaP,List.take_append_drop]
 rw [h,aan];omega
theorem Qx {w:World} {B n k:Nat} {S:Option Addr} {xs:List BSl} {x:BSl} (h:Rd w B 1 S n (xs.map BSl.val)) (hn:k<n) (hx:xs[k]?=some x) :
  ∃ b off,S=some ⟨b,off,none⟩∧b<B∧w.cell? ⟨b,off+k,none⟩=some (.slice x.A x.l.length x.c):=by
 obtain ⟨b,off,hA,hb,hc⟩:=h.2 (by omega);exact ⟨b,off,hA,hb,hc _ _ (by rw [aaD,hx];rfl)⟩
theorem aZ {l:List Nat} : ∀ u∈ag l,u.oneCell'=true:=by
 intro v hv;obtain ⟨x,_,rfl⟩:=aaK.1 hv;rfl
theorem JA (S:Option Addr) (c n:Nat) (xs:List BSl) (W:World) (hS:Rd W W.heap.size 1 S n (xs.map BSl.val)) (hx:∀ x∈xs,x.ok W) (ht:(iH xs).length≤70368744177664) (hn:n≤1000) :
  Calls prog 194 #[.slice S n c] W (kL 1 (iH xs).length (ag (iH xs)) W):=by
 have hl:Hid (xs.length=n):=by have:=hS.1;rw [aaQ,aaA] at this;exact this
 go_enter func194,ntmps194;go_wp2_with fail;go_loop [3,11] (fun s i=>∃ k:Nat,k≤n∧i = .int .i64 k∧s = .int .i64 (iH (xs.take k)).length) (fun _ i=>n - (intOf i).toNat)
 case atStart=>exact ⟨0,aao _,rfl,rfl⟩
 case round =>
  obtain ⟨k,hk,rfl,rfl⟩:=hrel;have hle:=vP xs k;by_cases hlt:k<n
  ·obtain ⟨x,hxk⟩:∃ x,Hid (xs[k]?=some x):=⟨_,aab (aac (by rw [hl.out];exact hlt))⟩
   obtain ⟨b,off,rfl,hbb,c0⟩:=Qx hS hlt hxk.out;have hj:=aab (Aw hxk.out);have hle2:=vP xs (k+1);rw [hj.out,aan] at hle2;go_wp2_with fail;exact ⟨⟨k+1,by omega,by go_num,by rw [hj.out,aan];go_num⟩,by simp [intOf];omega⟩
  ·have hkn:Hid (iH (xs.take k)=iH xs):=by show _=_;rw [aaH (by rw [hl.out];omega)]
   rw [hkn.out];go_wp2_with fail;refine (Qw _ W ht).mono ?_;rintro e w1 ⟨v,rfl,hb,hown⟩;go_wp2_with fail;go_loopw [6,27] (fun v i wr=>∃ k:Nat,k≤n∧i = .int .i64 k∧Below W.heap.size W wr∧wr.ownsRow W.heap.size 5 1 v (iH (xs.take k)).length (ag (iH (xs.take k)))) (fun _ i _=>n - (intOf i).toNat)
   case atStart=>exact ⟨0,aao _,rfl,hb,hown⟩
   case round =>
    clear hb hown hlt;obtain ⟨k2,hk2,rfl,hb,hown⟩:=hrel;have hle:=vP xs k2;by_cases hlt:k2<n
    ·obtain ⟨x,hxk⟩:∃ x,Hid (xs[k2]?=some x):=⟨_,aab (aac (by rw [hl.out];exact hlt))⟩
     obtain ⟨b,off,rfl,hbb,c0⟩:=Qx (hS.below hb) hlt hxk.out;obtain ⟨hxr,hxn⟩:=hx x (aam hxk.out);have hxr2:=hxr.below hb;have hj:=aab (Aw hxk.out);have hle2:=vP xs (k2+1);rw [hj.out,aan] at hle2;have hbs:=hb.size;have hml:(iH (xs.take k2)).length+x.l.length≤maxLen:=(by unfold maxLen;omega);have hby:((iH (xs.take k2)).length+x.l.length)*1≤140737488355328:=(by omega);go_wp2_with (at_builtin;refine Ar (.tmp 31) (.tmp 32) 83 W.heap.size 5 (.int .u8 0) 1 1 u6 (iH (xs.take k2)).length (ag (iH (xs.take k2))) x.A x.l.length x.c W.heap.size (ag x.l) rfl rfl underlying83 bG rfl (by omega) rfl hown rfl hxr2 hxn aZ hml hby hbs ?_;intro v' w' hown4 hbw hgw)
     go_roundw
     case rel=>exact ⟨k2+1,by omega,by go_num,hb.trans hbw,by rw [hj.out,aan];simpa [ag] using hown4⟩
     case measure=>simp [intOf];omega
    ·have hkn2:Hid (iH (xs.take k2)=iH xs):=by show _=_;rw [aaH (by rw [hl.out];omega)]
     rw [hkn2.out] at hown;go_wp2_with fail;go_ret;exact ⟨_,rfl,hb,Sl.of_own hown⟩
theorem qy (w:World) (cur cs:Array Value) (t:TypeId):(w.alloc (.cells cur t)).setRow w.heap.size cs=w.alloc (.cells cs t):=by
 have h:((w.heap.push (.cells cur t)).modify w.heap.size fun o=>match o with | .cells _ t fr => .cells cs t fr | o=>o)=w.heap.push (.cells cs t):=by
  apply Array.ext_getElem?;intro i;rw [Array.getElem?_modify,Array.getElem?_push,Array.getElem?_push];by_cases hi:i=w.heap.size
  ·subst hi;simp
  ·have hi':¬w.heap.size=i:=fun e=>hi e.symm
   simp [hi,hi']
 unfold World.setRow World.alloc;simp only [World.mk.injEq,and_true];exact h
theorem Ox {P:Program} (w:World) (t:TypeId) (cur:Array Value) (vs:List Value) (hl:vs.length=cur.size) (h1:∀ v∈vs,v.oneCell'=true) :
  (storeCells ⟨w.heap.size,0,none⟩ vs).run P (w.alloc (.cells cur t)) = .ok () (w.alloc (.cells vs.toArray t)):=by
 have h:=run_storeCells_at P w.heap.size 0 t vs 0 cur (w.alloc (.cells cur t)) (Blk.new w t cur _ rfl) (by omega) h1;rw [h,←qy w cur vs.toArray t];congr 2;simp [hl]
theorem ny (l:List Nat) (hl:l.length=32) (w:World):(storeCells ⟨w.heap.size,0,none⟩ (ag l)).run prog (w.alloc (.cells #[.int .u8 0,.int .u8 0,.int .u8 0,.int .u8 0,.int .u8 0,.int .u8 0,.int .u8 0,.int .u8 0,.int .u8 0,.int .u8 0,.int .u8 0,.int .u8 0,.int .u8 0,.int .u8 0,.int .u8 0,.int .u8 0,.int .u8 0,.int .u8 0,.int .u8 0,.int .u8 0,.int .u8 0,.int .u8 0,.int .u8 0,.int .u8 0,.int .u8 0,.int .u8 0,.int .u8 0,.int .u8 0,.int .u8 0,.int .u8 0,.int .u8 0,.int .u8 0] 29)) = .ok () (w.alloc (.cells (ag l).toArray 29)) :=
 Ox w _ _ (ag l) (by rw [ai,hl];rfl) aZ
def sb (s:ByteArray):List Nat:=s.data.toList.map UInt8.toNat
theorem uN (s:ByteArray):(sb s).length=s.size:=by simp [sb]
theorem MG (s:ByteArray):okB (sb s):=by
 intro x hx;obtain ⟨u,_,rfl⟩:=aaK.1 hx;exact u.toNat_lt
def dig (l:List Nat):Value := .agg (ag l).toArray
theorem kE (l:List Nat):okB (bM l):=by
 intro x hx;obtain ⟨v,_,hv⟩:=List.mem_flatMap.1 hx;exact tC v 4 x hv
theorem jD (w:World) (e:TypeId) (s:ByteArray):Below w.heap.size w (Lib.bytesWorld w e s) :=
 ⟨rfl,rfl,rfl,by rw [Lib.bytesWorld_size];omega,fun k hk=>Lib.bytesWorld_at_old w e s k hk⟩
theorem Az (w:World) (e:TypeId) (s:ByteArray) (b:Nat) (hb:b=w.heap.size):Rd (Lib.bytesWorld w e s) (Lib.bytesWorld w e s).heap.size 1 (some ⟨b,0,none⟩) s.size (ag (sb s)):=by
 subst hb;refine ⟨by rw [ai,uN];omega,fun _=>⟨w.heap.size,0,rfl,by rw [Lib.bytesWorld_size];omega,fun j u hj=>?_⟩⟩
 have hl:j<s.size:=by
  have:=(aag.1 hj).1
  rw [ai,uN] at this;exact this
 rw [aax,Lib.bytesWorld_cell w e s j hl,←hj];unfold ag sb;have h2:j<s.data.toList.length:=by simpa using hl
 rw [aaD,aaD,aac h2,aaU,aac h2];rfl
theorem lD (s:ByteArray) (A:Option Addr) (n c:Nat) (l:List Nat) (W:World) (hA:Rd W W.heap.size 1 A n (ag l)) (hnil:A=none→n=0∧c=0) (ho:okB l) (hs:s.size≤1000000) (hn:n≤70368744177000) (hG:ShaG W) :
  Calls prog 117 #[.string s,.slice A n c] W (Ret (dig (dP (sb s) l)) W):=by
 obtain rfl:l.length=n:=by have:=hA.1;rw [ai,aaA] at this;exact this
 go_enter func117,ntmps117;have hcv:=fun (w:World)=>Lib.run_convert_string_bytes (P:=prog) w 9 83 5 s underlying9 underlying83 underlying5;go_upto_region 1 with fail;change Code.wp _ _ _ _ (W.alloc (.cells (ag (aF 32)).toArray 29));have BD:=Blk.new W 29 (ag (aF 32)).toArray _ rfl;have hb:=bAl (aj W) (.cells (ag (aF 32)).toArray 29);generalize W.alloc (.cells (ag (aF 32)).toArray 29)=w1 at *;go_wp2_with fail;refine (sum_any _ _ _ (sb s) _ (by exact Az w1 _ s _ rfl) (MG s) (by exact grownCap_ge _ _ _ _) (by exact grownCap_le_maxLen _ _ _ _ (by unfold maxLen;omega)) (by exact (hG.below hb).below (jD _ _ _))).mono ?_;rintro e w2 ⟨rfl,b2⟩;have hbB:=ah hb (jD w1 5 s);have hb2:=ah hbB b2;have BD2:Blk w2 W.heap.size 29 (ag (aF 32)).toArray:=(BD.below (jD w1 5 s) BD.lt).below b2 (by rw [Lib.bytesWorld_size];have:=BD.lt;omega);clear b2 hbB BD hb hcv;have st1:=ny (bM (sb s)) (bI _);have ln1:(ag (bM (sb s))).length=32:=by rw [ai,bI]
 go_upto_region 2 with fail;have BT:=Blk.new w2 29 (ag (bM (sb s))).toArray _ rfl;have hb3:=bAl hb2 (.cells (ag (bM (sb s))).toArray 29);have BD3:=BD2.alloc (.cells (ag (bM (sb s))).toArray 29);have hlt:W.heap.size<w2.heap.size:=BD2.lt;clear hb2 BD2 st1 ln1;generalize w2.alloc (.cells (ag (bM (sb s))).toArray 29)=w3 at *;generalize w2.heap.size=bt at *;go_wp2_with fail
 have hS:Rd (w3.alloc (.cells #[.slice (some ⟨bt,0,none⟩) 32 32,.slice A l.length c] 83)) (w3.alloc (.cells #[.slice (some ⟨bt,0,none⟩) 32 32,.slice A l.length c] 83)).heap.size 1 (some ⟨w3.heap.size,0,none⟩) 2 ([(⟨some ⟨bt,0,none⟩,32,bM (sb s)⟩:BSl),⟨A,c,l⟩].map BSl.val):=by
  have h:=Rd.new w3 [.slice (some ⟨bt,0,none⟩) 32 32,.slice A l.length c] 83 1 2 _ rfl rfl;have e:[(⟨some ⟨bt,0,none⟩,32,bM (sb s)⟩:BSl),⟨A,c,l⟩].map BSl.val=[.slice (some ⟨bt,0,none⟩) 32 32,.slice A l.length c]:=by simp [BSl.val,bI]
  rw [e];exact h
 have hjoin:iH [(⟨some ⟨bt,0,none⟩,32,bM (sb s)⟩:BSl),⟨A,c,l⟩]=bM (sb s)++l:=by simp [iH]
 have hb4:=bAl hb3 (.cells #[.slice (some ⟨bt,0,none⟩) 32 32,.slice A l.length c] 83);have BT4:=BT.alloc (.cells #[.slice (some ⟨bt,0,none⟩) 32 32,.slice A l.length c] 83);have BD4:=BD3.alloc (.cells #[.slice (some ⟨bt,0,none⟩) 32 32,.slice A l.length c] 83);clear hb3 BT BD3;generalize w3.alloc (.cells #[.slice (some ⟨bt,0,none⟩) 32 32,.slice A l.length c] 83)=w4 at *
 have q:=JA _ 2 2 _ w4 hS (by
  intro x hx;simp only [aaq,aaw,or_false] at hx;rcases hx with rfl | rfl
  ·refine ⟨⟨by rw [ai,bI],fun _=>⟨bt,0,rfl,BT4.lt,fun j u hu=>?_⟩⟩,fun h=>by cases h⟩
   rw [aax,BT4.cell];simpa using hu
  ·exact ⟨(hA.below hb4).more hb4.size,hnil⟩) (by rw [hjoin,aan,bI];omega) (by omega)
 obtain ⟨X,hX⟩:∃ X,Hid (X=bM (sb s)++l):=⟨_,aab rfl⟩
 rw [hjoin,←hX.out] at q;clear hS hjoin
 with_reducible refine q.mono ?_
 rintro e w5 ⟨v,rfl,b5,A5,c5,rfl,hR5,hc5,hc52,_⟩;have hb5:=ah hb4 b5;have BD5:=BD4.below b5 BD4.lt;clear q hb4 b5 BT4 BD4;go_wp2_with fail
 with_reducible refine (sum_any A5 _ c5 X w5 hR5 (by rw [hX.out];exact mP (kE _) ho) hc5 hc52 (hG.below hb5)).mono ?_
 rintro e w6 ⟨rfl,b6⟩;have hb6:=ah hb5 b6;have BD6:=BD5.below b6 BD5.lt;clear hb5 b6 BD5 hR5;have hT:Hid (dP (sb s) l=bM X):=by show _=_;rw [hX.out];rfl
 dsimp only;go_step;refine wpList_store_row rfl 29 (.tmp 4) (.tmp 13) rfl W.heap.size (ag (bM X)).toArray rfl rfl 29 _ BD6 (by rw [aae,ai,bI];exact aW) (by rw [aae,aae,ai,ai,bI];rfl) (fK _) ?_;have hb9:=below_setRow hb6 (aad _) (ag (bM X)).toArray;have BD9:Blk (w6.setRow W.heap.size (ag (bM X)).toArray) W.heap.size 29 (ag (bM X)).toArray:=setRow_heap w6 W.heap.size _ _ 29 _ BD6;go_wp2_with fail;exact bodyPost_ret (v:=dig (bM X)) (results_cell_row rfl _ _ W.heap.size 29 _ (0,0) _ rfl BD9 bQ rfl (by rw [aae,ai,bI];exact aW)) rfl ⟨by rw [hT.out],hb9⟩
def jW (d:List Nat):List Nat:=(d[0]?.getD 0 % 128)::d.drop 1
def VL (d:List Nat):Nat:=mO (jW d) 8 % 1073741789
def qV (tag l:List Nat):Nat:=VL (dP tag l)
theorem qW (tag l:List Nat):qV tag l<1073741789:=aaC _ (by decide)
theorem Oy {d:List Nat} (h:0<d.length):(ag d).set 0 (.int .u8 ((d[0]?.getD 0 % 128:Nat):Int))=ag (jW d):=by
 cases d with
 | nil=>simp at h
 | cons x d=>simp [ag,jW]
theorem Gx {d:List Nat} (h:okB d):okB (jW d):=by
 intro x hx;unfold jW at hx;rw [aaq] at hx;rcases hx with rfl | hx
 ·omega
 ·exact kQ h 1 x hx
theorem DN (d:List Nat) (h:okB d):∀ k,mO (jW d) (k+1)<128*256 ^ k
 | 0=>by simp [mO,jW];omega
 | k+1=>by
  have h1:=DN d h k
  have h2:(jW d)[k+1]?.getD 0<256:=by
   cases hx:(jW d)[k+1]? with
   | none=>decide
   | some x=>exact Gx h x (aam hx)
  show mO (jW d) (k+1)*256+_<_;rw [abf];omega
theorem u8_and127 (x:Nat) (h:x<256):bits .and .u8 (x:Int) 127=((x % 128:Nat):Int):=by
 have:=u8_and_nat x 127 h (by omega)
 rw [show (127:Nat)=2 ^ 7 - 1 from rfl,Nat.and_two_pow_sub_one_eq_mod] at this;exact this
theorem JB (a b:Nat) (ha:a<9223372036854775808) (hb:b<9223372036854775808):bits .or .i64 (a:Int) (b:Int)=((a ||| b:Nat):Int):=by
 have hab:a ||| b<9223372036854775808:=Nat.or_lt_two_pow (n:=63) ha hb
 have key:(BitVec.ofInt 64 (a:Int) ||| BitVec.ofInt 64 (b:Int)).toNat=a ||| b:=by
  rw [BitVec.toNat_or,BitVec.toNat_ofInt,BitVec.toNat_ofInt];have e1:((a:Int) % ((2 ^ 64:Nat):Int)).toNat=a:=by omega
  have e2:((b:Int) % ((2 ^ 64:Nat):Int)).toNat=b:=by omega
  rw [e1,e2]
 show IntKind.i64.wrap ((BitVec.ofInt 64 (a:Int) ||| BitVec.ofInt 64 (b:Int)).toNat:Nat)=_;rw [key,IntKind.wrap_i64];omega
theorem VW {n c:Nat} (hn:n≤36028797018963967) (hc:c<256):bits BinOp.or IntKind.i64 ((n:Int)*256) (c:Int)=((n*256+c:Nat):Int):=by
 have e1:((n:Int)*256)=((n*256:Nat):Int):=by omega
 rw [e1,JB _ _ (by omega) (by omega)];congr 1
 have:=Nat.shiftLeft_add_eq_or_of_lt (b:=c) (i:=8) (by omega) n
 rw [Nat.shiftLeft_eq] at this;exact this.symm
theorem qX (s:ByteArray) (A:Option Addr) (n c:Nat) (l:List Nat) (W:World) (hA:Rd W W.heap.size 1 A n (ag l)) (hnil:A=none→n=0∧c=0) (ho:okB l) (hs:s.size≤1000000) (hn:n≤70368744177000) (hG:ShaG W) :
  Calls prog 174 #[.string s,.slice A n c] W (Ret (.int .i64 (qV (sb s) l:Nat)) W):=by
 have q:=lD s A n c l W hA hnil ho hs hn hG;obtain ⟨d,hd⟩:∃ d,Hid (d=dP (sb s) l):=⟨_,aab rfl⟩
 have hdl:Hid (d.length=32):=by show _=_;rw [hd.out,dZ]
 have hdo:okB d:=by rw [hd.out];exact kE _
 rw [←hd.out] at q;go_enter func174,ntmps174;go_wp2_with fail
 with_reducible refine q.mono ?_
 rintro e w1 ⟨rfl,hb⟩;clear q;unfold dig;have st1:=ny d hdl.out;have ln1:(ag d).length=32:=by rw [ai,hdl.out]
 go_upto_region 2 with fail;have BT:=Blk.new w1 29 (ag d).toArray _ rfl;have hb2:=bAl hb (.cells (ag d).toArray 29);have hlt:W.heap.size≤w1.heap.size:=hb.size;clear hb st1 ln1;generalize w1.alloc (.cells (ag d).toArray 29)=w2 at *;generalize w1.heap.size=bt at *;obtain ⟨x,hx⟩:∃ x,Hid (d[0]?=some x):=⟨_,aab (aac (by rw [hdl.out];omega))⟩
 have hx8:x<256:=hdo x (aam hx.out);have c0:w2.cell? ⟨bt,0,none⟩=some (.int .u8 x):=by rw [BT.cell];simpa using qw hx.out
 have z0:=BT.frozen 0;have ha:=aab (u8_and127 x hx8)
 have hset:Hid ((ag d).set 0 (.int .u8 ((x % 128:Nat):Int))=ag (jW d)):=by
  have h:=Oy (d:=d) (by rw [hdl.out];omega);rw [hx.out] at h;exact h
 go_upto_region 3 with fail;rw [ha.out];have BT2:=BT.set_ 0 (.int .u8 ((x % 128:Nat):Int));rw [aaf,hset.out] at BT2;have hb3:=zQ7 hb2 (p:=⟨bt,0,none⟩) hlt (.int .u8 ((x % 128:Nat):Int));clear BT hb2 c0 z0;generalize w2.setCell ⟨bt,0,none⟩ (.int .u8 ((x % 128:Nat):Int))=w3 at *;have hhl:Hid ((jW d).length=32):=by show _=_;simp [jW,hdl.out]
 have hho:=Gx hdo;go_wp2_with fail;go_loop [4,14] (fun s i=>∃ k:Nat,k≤8∧i = .int .i64 k∧s = .int .i64 (mO (jW d) k:Nat)) (fun _ i=>8 - (intOf i).toNat)
 case atStart=>exact ⟨0,aao _,rfl,rfl⟩
 case round =>
  obtain ⟨k,hk,rfl,rfl⟩:=hrel;by_cases hlt:k<8
  ·obtain ⟨y,hy⟩:∃ y,Hid ((jW d)[k]?=some y):=⟨_,aab (aac (by rw [hhl.out];omega))⟩
   have hy8:y<256:=hho y (aam hy.out);have c0:w3.cell? ⟨bt,k,none⟩=some (.int .u8 y):=by rw [BT2.cell];simpa using qw hy.out
   have hacc:mO (jW d) k≤36028797018963967:=by
    rcases k with _ | k
    ·simp [mO]
    ·have h:=DN d hdo k
     have h2:128*256 ^ k≤128*256 ^ 6:=Nat.mul_le_mul_left _ (Nat.pow_le_pow_right (by omega) (by omega));have h3:128*256 ^ 6=36028797018963968:=(by decide);omega
   have hs:Hid (bits BinOp.or IntKind.i64 ((mO (jW d) k:Int)*256) (y:Int)=((mO (jW d) (k+1):Nat):Int)):=by
    show _=_;rw [VW (by omega) hy8];show _=((mO (jW d) k*256+(jW d)[k]?.getD 0:Nat):Int);rw [hy.out];rfl
   have hkI:(k:Int)<32:=(by omega);go_wp2_with fail;exact ⟨⟨k+1,by omega,by go_num,by rw [hs.out]⟩,by simp [intOf];omega⟩
  ·have hk8:Hid (mO (jW d) k % 1073741789=qV (sb s) l):=by
    have e:k=8:=(by omega);show _=_;rw [e];unfold qV VL;rw [←hd.out]
   go_wp2_with fail;go_ret;exact ⟨eX (by rw [←hk8.out];simp),hb3⟩
def Grew (w w':World) (v v':Value):Prop:=w.grownBy w' v.ownBlock∧(v'.ownBlock=v.ownBlock∨∃ g,v'.ownBlock=some g∧w.heap.size≤g)
theorem Grew.refl (w:World) (v:Value):Grew w w v v:=⟨World.grownBy.refl _ _,.inl rfl⟩
theorem Grew.trans {w w1 w2:World} {v v1 v2:Value} (h:Grew w w1 v v1) (k:Grew w1 w2 v1 v2):Grew w w2 v v2:=by
 obtain ⟨h1,h2⟩:=h;obtain ⟨k1,k2⟩:=k;refine ⟨⟨k1.1.trans h1.1,k1.2.trans h1.2,k1.3.trans h1.3,aaj h1.size k1.size,fun i hi hr=>?_⟩,?_⟩
 ·refine (k1.block i (aaS hi h1.size) ?_).trans (h1.block i hi hr)
  rcases h2 with e | ⟨g,e,hg⟩
  ·rw [e];exact hr
  ·rw [e];intro e2;injection e2 with e2;omega
 ·rcases k2 with e | ⟨g,e,hg⟩
  ·rcases h2 with e2 | ⟨g2,e2,hg2⟩
   ·exact .inl (e.trans e2)
   ·exact .inr ⟨g2,e.trans e2,hg2⟩
  ·exact .inr ⟨g,e,aaj h1.size hg⟩
theorem Grew.pre {w w1 w2:World} {v v':Value} (hb:Below w.heap.size w w1) (h:Grew w1 w2 v v'):Grew w w2 v v':=by
 obtain ⟨h1,h2⟩:=h;refine ⟨⟨h1.1.trans hb.os,h1.2.trans hb.tape,h1.3.trans hb.output,aaj hb.size h1.size,fun i hi hr=>(h1.block i (aaS hi hb.size) hr).trans (hb.block i hi)⟩,?_⟩;rcases h2 with e | ⟨g,e,hg⟩
 ·exact .inl e
 ·exact .inr ⟨g,e,aaj hb.size hg⟩
theorem Grew.post {w w1 w2:World} {v v':Value} (h:Grew w w1 v v') (hb:Below w1.heap.size w1 w2):Grew w w2 v v':=by
 obtain ⟨h1,h2⟩:=h;exact ⟨⟨hb.os.trans h1.1,hb.tape.trans h1.2,hb.output.trans h1.3,aaj h1.size hb.size,fun i hi hr=>(hb.block i (aaS hi h1.size)).trans (h1.block i hi hr)⟩,h2⟩
theorem Grew.size {w w':World} {v v':Value} (h:Grew w w' v v'):w.heap.size≤w'.heap.size:=h.1.size
theorem Grew.blk {w w':World} {v v':Value} {base:Nat} {e t:TypeId} {size n g:Nat} {xs:List Value} {cs:Array Value} (h:Grew w w' v v') (hown:w.ownsRow base e size v n xs) (hB:Blk w g t cs) (hne:t≠e):Blk w' g t cs:=by
 refine (h.1.block g hB.lt ?_).trans hB;rcases hown.2 with ⟨rfl,_⟩ | ⟨g2,cap,cur,rfl,_,hg,_⟩
 ·simp [Value.ownBlock]
 ·intro e2
  have e3:g=g2:=by simpa [Value.ownBlock] using e2
  subst e3;unfold Blk at hB;rw [hB] at hg;simp at hg;exact hne hg.2
theorem Grew.below {w w':World} {v v':Value} {base:Nat} {e:TypeId} {size n:Nat} {xs:List Value} (h:Grew w w' v v') (hown:w.ownsRow base e size v n xs) (hb:base≤w.heap.size):Below base w w' :=
 (Below.refl _ _).grown h.1 hb (fun k hk=>(hown.lt k hk).1)
theorem Grew.other {w w':World} {v v':Value} {g:Nat} (h:Grew w w' v v') (hg:g<w.heap.size) (hne:some g≠v.ownBlock):w'.heap[g]?=w.heap[g]?:=h.1.block g hg hne
theorem bT {P:Program} {ops:Array Oper} {rest:List Oper} {o:Oper} {a:Act} {Q:Exit→Act→World→Prop} {w:World} (s x:Operand) (t:TypeId)
  (base:Nat) (e:TypeId) (z:Value) (size bytes:Nat) (v:Value) (n:Nat) (xs:List Value) (A:Option Addr) (m c B:Nat) (news:List Value) (hgd:o.guard=none)
  (ho:o.op = .call { callee := .builtin .append,args:=#[s,x],argTypes:=#[t,t] })
  (ht:P.underlying t=some (.slice e)) (hinfo:(P.info? e).map (fun i=>(i.zero,i.size,i.bytes))=some (some z,size,bytes)) (hzs:z.cells.size=size) (hsz:0<size)
  (hs:a.eval s=v) (hown:w.ownsRow base e size v n xs) (hx:a.eval x = .slice A m c) (hr:Rd w B size A m news) (hnil:A=none→m=0∧c=0) (h1:∀ u∈news,u.oneCell'=true)
  (h63:n+m≤maxLen) (hbytes:(n+m)*bytes≤140737488355328) (hbase:base≤w.heap.size)
  (h:∀ v' w',w'.ownsRow base e size v' (n+m) (xs++news)→Grew w w' v v'→wpList P ops Q rest (a.put o.dst v') w') :
  wpList P ops Q (o::rest) a w:=by
 obtain ⟨i0,hi,hz0,hz1,hz2⟩:=info_parts hinfo;cases A with
 | none =>
  obtain ⟨rfl,rfl⟩:=hnil rfl;have hn0:news=[]:=abr (by rw [hr.1];simp);subst hn0;refine wpList_append_own_none hgd s x t ho base e i0 size ht hi v n xs hs hown hx ?_;exact h v w (by simpa using hown) (Grew.refl _ _)
 | some ad =>
  refine wpList_append_own_at w hgd s x t ho base e i0 z size bytes ht hi hz0 hz1 hz2 hzs hsz v n xs hs hown ad m c news hx hr.1 ?_ h1 h63 hbytes hbase ?_
  ·intro j u hj
   rcases aa7 m with h0 | h0
   ·subst h0
    have hn0:news=[]:=abr (by rw [hr.1];simp);subst hn0;simp at hj
   ·obtain ⟨b,off,he,_,hc⟩:=hr.2 h0
    injection he with he
    subst he;rw [dX];exact hc j u hj
  ·intro v' w' hown' hgrow _ hat
   refine h v' w' hown' ⟨hgrow,?_⟩;rcases hat with e | e
   ·exact .inl e
   ·exact .inr ⟨_,e,aad _⟩
theorem aO {P:Program} {ops:Array Oper} {rest:List Oper} {o:Oper} {a:Act} {Q:Exit→Act→World→Prop} (w0:World) (news:List Value) (s x:Operand) (t:TypeId)
  (base:Nat) (e:TypeId) (z:Value) (size bytes:Nat) (v:Value) (n:Nat) (xs:List Value) (hgd:o.guard=none)
  (ho:o.op = .call { callee := .builtin .append,args:=#[s,x],argTypes:=#[t,t] })
  (ht:P.underlying t=some (.slice e)) (hinfo:(P.info? e).map (fun i=>(i.zero,i.size,i.bytes))=some (some z,size,bytes)) (hzs:z.cells.size=size) (hsz:0<size)
  (hs:a.eval s=v) (hown:w0.ownsRow base e size v n xs) (hx:a.eval x = .slice (some ⟨w0.heap.size,0,none⟩) 1 1) (hl:news.length=size) (h1:∀ u∈news,u.oneCell'=true)
  (h63:n+1≤maxLen) (hbytes:(n+1)*bytes≤140737488355328) (hbase:base≤w0.heap.size)
  (h:∀ v' w',w'.ownsRow base e size v' (n+1) (xs++news)→Grew w0 w' v v'→wpList P ops Q rest (a.put o.dst v') w') :
  wpList P ops Q (o::rest) a (w0.alloc (.cells news.toArray e)):=by
 refine bT s x t base e z size bytes v n xs (some ⟨w0.heap.size,0,none⟩) 1 1 _ news hgd ho ht hinfo hzs hsz hs (hown.alloc _) hx
  (Rd.new w0 news e size 1 _ rfl (by rw [hl,Nat.one_mul])) (fun h=>by cases h) h1 h63 hbytes (by simp;omega) fun v' w' hown' hg=>?_
 exact h v' w' hown' (hg.pre (bAl (aj _) _))
def qA:Nat→Nat→List Nat
 | 0,u=>[u % 256]
 | k+1,u=>if u<128 then [u] else (u % 128+128)::qA k (u / 128)
def iV (u:Nat):List Nat:=qA 10 u
def mQ (n:Int):Nat:=if 0≤n then (2*n).toNat else (-2*n - 1).toNat
theorem MH {n:Int} (h0:-9223372036854775808≤n) (h1:n≤9223372036854775807):mQ n<18446744073709551616:=by unfold mQ;split <;> omega
theorem fP:∀ k u,0<(qA k u).length∧(qA k u).length≤k+1
 | 0,_=>⟨by simp [qA],by simp [qA]⟩
 | k+1,u=>by
  unfold qA
  split
  ·simp
  ·have:=fP k (u / 128)
   simp;omega
theorem vS:∀ k u,okB (qA k u)
 | 0,u=>by intro x hx;simp [qA] at hx;omega
 | k+1,u=>by
  unfold qA
  split
  ·intro x hx;simp at hx;omega
  ·intro x hx
   rw [aaq] at hx;rcases hx with rfl | hx
   ·omega
   ·exact vS k _ x hx
inductive It where
 | int (n:Int)
 | text (s:ByteArray)
def It.cells:It→List Value
 | .int n=>[.int .i64 1,.int .i64 n,.string ⟨#[]⟩,.slice none 0 0]
 | .text s=>[.int .i64 2,.int .i64 0,.string s,.slice none 0 0]
def It.agg (x:It):Value := .agg x.cells.toArray
theorem It.cells_length (x:It):x.cells.length=4:=by cases x <;> rfl
def It.enc:It→List Nat
 | .int n=>1::iV (mQ n)
 | .text s=>2::(iV s.size++sb s)
def It.ok:It→Prop
 | .int n => -9223372036854775808≤n∧n≤9223372036854775807
 | .text s=>s.size≤1000000
def jA (l:List It):List Nat:=l.flatMap It.enc
def bZ (l:List It):List Nat:=3::(iV l.length++jA l)
theorem Uw (x:It):okB x.enc:=by
 intro y hy;cases x with
 | int n =>
  rcases aaq.1 hy with rfl | hy
  ·decide
  ·exact vS _ _ y hy
 | text s =>
  rcases aaq.1 hy with rfl | hy
  ·decide
  ·rcases aaL.1 hy with hy | hy
   ·exact vS _ _ y hy
   ·exact MG s y hy
theorem iI (l:List It):okB (bZ l):=by
 intro y hy;rcases aaq.1 hy with rfl | hy
 ·decide
 ·rcases aaL.1 hy with hy | hy
  ·exact vS _ _ y hy
  ·obtain ⟨x,_,hx⟩:=List.mem_flatMap.1 hy
   exact Uw x y hx
theorem DR (l:List It) (x:It):jA (l++[x])=jA l++x.enc:=by simp [jA]
theorem MI {x:It} (h:x.ok):x.enc.length≤1000012:=by
 cases x with
 | int n=>have:=(fP 10 (mQ n)).2;show (iV (mQ n)).length+1≤_;unfold iV;omega
 | text s =>
  have:=(fP 10 s.size).2
  have h:s.size≤1000000:=h;show (iV s.size++sb s).length+1≤_;rw [aan,uN];unfold iV;omega
theorem vT:∀ {l:List It},(∀ x∈l,x.ok)→(jA l).length≤l.length*1000012
 | [],_=>by simp [jA]
 | x::l,h=>by
  have h1:=MI (h x (List.mem_cons_self ..));have h2:=vT (l:=l) (fun y hy=>h y (aa8 _ hy));show (x.enc++jA l).length≤_;rw [aan,aas,abh];omega
theorem Gy {w:World} {B n k:Nat} {A:Option Addr} {l:List It} {x:It} (h:Rd w B 4 A n (l.flatMap It.cells)) (hn:k<n) (hx:l[k]?=some x) :
  ∃ b off,A=some ⟨b,off,none⟩∧b<B∧∀ j u,x.cells[j]?=some u→w.cell? ⟨b,off+k*4+j,none⟩=some u:=by
 obtain ⟨b,off,hA,hb,hc⟩:=h.2 (by omega);refine ⟨b,off,hA,hb,fun j u hu=>?_⟩;have hj:j<4:=by have:=(aag.1 hu).1;rw [It.cells_length] at this;exact this
 have:=hc (k*4+j) u (by rw [oC It.cells_length l k j x hx hj];exact hu)
 rw [←aay] at this;exact this
end
end Go.Proofs.YthbibbkbaphpkaaGreatDoor

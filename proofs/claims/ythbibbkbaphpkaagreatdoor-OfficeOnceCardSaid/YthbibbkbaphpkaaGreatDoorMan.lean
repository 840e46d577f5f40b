/- bytes.Join by the kit's contract: the laying by hand; one part, two parts. -/
import Derived.Test.YthbibbkbaphpkaaGreatDoorMaf
import Derived.Shelf.Bytes.SlJoin
import Derived.ArgAppend
import Derived.Test.YthbibbkbaphpkaaGreatDoorMai
import Derived.Test.YthbibbkbaphpkaaGreatDoorMam
set_option maxHeartbeats 16000000
set_option maxRecDepth 1000000
namespace Go.Proofs.YthbibbkbaphpkaaGreatDoor
open _root_.Go.Proofs.Tryz
section
open Go.RowKit
def Xh:Go.Shelf.Ren where
 f:=fun k=>if k=14 then 273 else 274
 t:=fun k=>if k=0 then 0 else if k=3 then 3 else if k=4 then 4 else if k=9 then 9 else if k=20 then 20 else if k=22 then 83 else if k=26 then 142 else 5
 g:=fun k=>k
theorem joinL:SlLaysJ.n14 prog Xh where
 mixed:=by kernel_rfl
 f14:=by kernel_rfl
 f15:=by kernel_rfl
 t0:=by kernel_rfl
 a0:=by intro w;kernel_rfl
 z0:=by intro w;kernel_rfl
 v0:=by intro w;kernel_rfl
 t3:=by kernel_rfl
 a3:=by intro w;kernel_rfl
 z3:=by intro w;kernel_rfl
 v3:=by intro w;kernel_rfl
 t4:=by kernel_rfl
 a4:=by intro w;kernel_rfl
 z4:=by intro w;kernel_rfl
 v4:=by intro w;kernel_rfl
 t9:=by kernel_rfl
 a9:=by intro w;kernel_rfl
 z9:=by intro w;kernel_rfl
 v9:=by intro w;kernel_rfl
 t20:=by kernel_rfl
 a20:=by intro w;kernel_rfl
 z20:=by intro w;kernel_rfl
 v20:=by intro w;kernel_rfl
 t22:=by kernel_rfl
 a22:=by intro w;kernel_rfl
 z22:=by intro w;kernel_rfl
 v22:=by intro w;kernel_rfl
 t26:=by kernel_rfl
 a26:=by intro w;kernel_rfl
 z26:=by intro w;kernel_rfl
 v26:=by intro w;kernel_rfl
 t5:=by kernel_rfl
 z5:=by intro w;kernel_rfl
 i5:=by kernel_rfl
theorem mW (d:List Nat):(dgB d).length=d.length:=by simp [dgB]
theorem Nq {d:List Nat} (ho:okB d) {i:Nat} {x:UInt8} (h:(dgB d)[i]?=some x):d[i]?=some x.toNat:=by
 unfold dgB at h;rw [aaD] at h;cases hd:d[i]? with
 | none=>rw [hd] at h;cases h
 | some n =>
  rw [hd] at h;simp at h;subst h
  have:=ho n (aam hd)
  simp [aaR this]
theorem Ij {B:Nat} {w':World} {v:Value} {d:List Nat} (ho:okB d) (h0:0<d.length) (h:Lib.FreshBytes B w' v (dgB d)):Sl w' w'.heap.size 1 v d.length (ag d):=by
 obtain ⟨g,cap,zs,rfl,_,hl,hm,hz,hr,hb,hc,_⟩:=h;rw [mW] at hl
 have hcell:∀ j u,(ag d)[j]?=some u→w'.cell? ⟨g,0+j,none⟩=some u:=by
  intro j u hu
  have hj:j<d.length:=by
   have:=(aag.1 hu).1
   rwa [ai] at this
  have e1:=hc j (by omega);have hzj:j<zs.length:=by omega
  have e2:zs.getD j 0=zs[j]:=by simp [List.getD,hzj]
  rw [aax,e1,e2];have hrg:=hr zs[j] (List.getElem_mem hzj)
  have hbj:(dgB d)[j]?=some (UInt8.ofNat zs[j].toNat):=by
   rw [←hb];unfold Lib.bytesOf;rw [aaD,aa6,if_pos (by rw [mW];exact hj),aac hzj];rfl
  have:=Nq ho hbj
  have hu2:=qw this;rw [hu] at hu2
  have ez:((UInt8.ofNat zs[j].toNat).toNat:Int)=zs[j]:=by
   rw [UInt8.toNat_ofNat'];omega
  rw [ez] at hu2;exact hu2.symm
 refine ⟨_,_,by rw [mW],⟨by rw [ai,aaA],fun _=>⟨g,0,rfl,?_,hcell⟩⟩,hl,hm,fun h=>by cases h⟩;obtain ⟨x,hx⟩:∃ x,d[0]?=some x:=⟨_,aac h0⟩
 have h1:=hcell 0 _ (qw hx);rw [aax] at h1;unfold World.cell? at h1;cases hh:w'.heap[g]? with
 | none=>rw [show (⟨g,0,none⟩:Addr).block=g from rfl,hh] at h1;simp at h1
 | some o=>exact (aaI.1 hh).1
theorem FI {d:List Nat} {i:Nat} {x:UInt8} (ho:okB d) (h:(dgB d)[i]?=some x):(ag d)[i]?=some (.int .u8 (x.toNat:Int)):=qw (Nq ho h)
theorem join_one (b o c:Nat) (A:Option Addr) (c0:Nat) (d:List Nat) (W:World) (hcell:W.cell? ⟨b,o,none⟩=some (.slice A d.length c0)) (hR:Rd W W.heap.size 1 A d.length (ag d)) (ho:okB d) (h0:0<d.length) (hs:d.length≤140737488355328) :
  Calls prog 273 #[.slice (some ⟨b,o,none⟩) 1 c,.slice none 0 0] W (kL 1 d.length (ag d) W):=by
 obtain ⟨g,off,rfl,_,hc⟩:=hR.2 h0;have q:=Any.bytes_Join_one joinL b o c ⟨g,off,none⟩ c0 (dgB d) (.slice none 0 0) W (by rw [mW];exact hcell) (fun i x hx=>by rw [dX];exact hc i _ (FI ho hx)) (by rw [mW];exact h0) (by rw [mW];exact hs);refine Calls.mono q ?_;rintro e w' ⟨v,rfl,hf,hb⟩;exact ⟨v,rfl,hb,Ij ho h0 hf⟩
theorem RN (b o c:Nat) (A B:Option Addr) (ca cb:Nat) (d f:List Nat) (W:World) (k1:W.cell? ⟨b,o,none⟩=some (.slice A d.length ca)) (k2:W.cell? ⟨b,o+1,none⟩=some (.slice B f.length cb)) (hA:Rd W W.heap.size 1 A d.length (ag d)) (hB:Rd W W.heap.size 1 B f.length (ag f))
  (ho:okB d) (hf:okB f) (h0:0<d.length) (h1:0<f.length) (hs:d.length+f.length≤140737488355328) (h2:2≤c) :
  Calls prog 273 #[.slice (some ⟨b,o,none⟩) 2 c,.slice none 0 0] W (kL 1 (d++f).length (ag (d++f)) W):=by
 obtain ⟨g,off,rfl,_,hc⟩:=hA.2 h0;obtain ⟨g2,off2,rfl,_,hc2⟩:=hB.2 h1
 have q:=Any.bytes_Join_many joinL b o 2 c [.slice (some ⟨g,off,none⟩) d.length ca,.slice (some ⟨g2,off2,none⟩) f.length cb] [dgB d,dgB f] (.slice none 0 0) [] W rfl (by omega) ⟨rfl,fun i v hv=>(by
   rw [dX]
   match i,hv with
   | 0,hv=>simp at hv;subst hv;exact k1
   | 1,hv=>simp at hv;subst hv;exact k2
   | i+2,hv=>simp at hv),fun i v l hv hl=>(by
   match i,hv,hl with
   | 0,hv,hl=>simp at hv hl;subst hv;subst hl;exact ⟨some ⟨g,off,none⟩,ca,by rw [mW],(fun h=>by cases h),fun a ha i x hx=>by injection ha with ha;subst ha;rw [dX];exact hc i _ (FI ho hx)⟩
   | 1,hv,hl=>simp at hv hl;subst hv;subst hl;exact ⟨some ⟨g2,off2,none⟩,cb,by rw [mW],(fun h=>by cases h),fun a ha i x hx=>by injection ha with ha;subst ha;rw [dX];exact hc2 i _ (FI hf hx)⟩
   | i+2,hv,hl=>simp at hv)⟩ h2 ⟨none,0,rfl,fun _=>rfl,fun a ha=>by cases ha⟩ (by omega) (by simp [Lib.lens,mW];omega)
 refine Calls.mono q ?_;rintro e w' ⟨v,rfl,hfr,hb⟩;have hj:Lib.join [dgB d,dgB f] []=dgB (d++f):=by simp [Lib.join,List.intercalate,dgB]
 rw [hj] at hfr;exact ⟨v,rfl,hb,Ij (mP ho hf) (by simp;omega) hfr⟩
theorem Blk.dwM {w:World} {g:Nat} {t:TypeId} {cs:Array Value} (h:Blk w g t cs):Blk w.drew g t cs:=h
theorem Nr (s:ByteArray) (A:Option Addr) (n c:Nat) (b:List Nat) (W:World) (hj:∀ w',Below W.heap.size W w'→Calls prog 273 #[.slice A n c,.slice none 0 0] w' (kL 1 b.length (ag b) w'))
  (hs:s.size≤1000000) (h0:0<b.length) (hb0:b.length≤100000000000) (hG:ShaG W) :
  Calls prog 265 #[.string s,.slice A n c] W (kL 1 (bM (sb s)++b).length (ag (bM (sb s)++b)) W):=by
 replace hj:=aab hj;go_enter func265,ntmps265;have hcv:=fun (w:World)=>Lib.run_convert_string_bytes (P:=prog) w 9 83 5 s underlying9 underlying83 underlying5;go_wp2_with fail;refine (sum_any _ _ _ (sb s) _ (by exact Az W _ s _ rfl) (MG s) (by exact grownCap_ge _ _ _ _) (by exact grownCap_le_maxLen _ _ _ _ (by unfold maxLen;omega)) (by exact hG.below (jD _ _ _))).mono ?_;rintro e w2 ⟨rfl,b2⟩;have hb2:=ah (jD W 5 s) b2;clear b2 hcv;have st1:=ny (bM (sb s)) (bI _);have ln1:(ag (bM (sb s))).length=32:=by rw [ai,bI]
 go_upto_region 2 with fail;have BT:=Blk.new w2 29 (ag (bM (sb s))).toArray _ rfl;have hb3:=bAl hb2 (.cells (ag (bM (sb s))).toArray 29);clear hb2 st1 ln1;generalize w2.alloc (.cells (ag (bM (sb s))).toArray 29)=w3 at *;generalize w2.heap.size=bt at *;have KS:Hid (∀ w':World,Below w3.heap.size w3 w'→True):=aab (fun _ _=>trivial);refine aK (f:=2) KS [(0,1),(1,1),(2,3),(3,3),(4,3)] ?_;simp only [bf,aap,aar]
 iterate 2 refine ak ?_
 refine aN ?_
 first | simp only [aak] | simp only [aat,aak]
 clear KS;replace BT:=Blk.dwM BT;replace hb3:=bDr hb3;generalize w3.drew=w4 at *;go_wp2_with fail;refine (hj.out _ hb3).mono ?_;rintro e w5 ⟨v5,rfl,b5,A5,c5,rfl,hR5,hc5,hc52,hn5⟩;have hb5:=ah hb3 b5;have BT5:=BT.below b5 BT.lt;obtain ⟨g5,off5,rfl,hg5,hcc⟩:=hR5.2 h0;clear hb3 b5 BT hj;obtain ⟨i0,hi,hz0,hz1,hz2⟩:=info_parts bG;have hi':=aab hi;have hz0':=aab hz0;have hz1':=aab hz1;have hz2':=aab hz2;obtain ⟨X,hX⟩:∃ X,bM (sb s)++b=X:=⟨_,rfl⟩
 have hXl:Hid (X.length=32+b.length):=by show _=_;rw [←hX,aan,bI]
 have hXb:Hid (ag X=ag (bM (sb s))++ag b):=by show _=_;rw [←hX];simp [ag]
 have hold:∀ a,some (⟨bt,0,none⟩:Addr)=some a→∀ j u,(ag (bM (sb s)))[j]?=some u→w5.cell? (a.add j)=some u:=by
  intro a ha j u hu;injection ha with ha;subst ha;rw [dX,aax,BT5.cell];simpa using hu
 have hnew:∀ j u,(ag b)[j]?=some u→w5.cell? ((⟨g5,off5,none⟩:Addr).add j)=some u:=fun j u hu=>by rw [dX];exact hcc j u hu
 replace hold:=aab hold;replace hnew:=aab hnew;replace hX:=aab hX;have hf:32<32+b.length:=by omega
 clear hi hz0 hz1 hz2 hcc hR5 BT5;go_wp2_with (at_builtin;refine wpList_append_grows w5 (by rfl) (.tmp 9) (.tmp 11) 83 (by rfl) 5 i0 (.int .u8 0) 1 1 underlying83 hi'.out hz0'.out hz1'.out hz2'.out rfl (by omega) (some ⟨bt,0,none⟩) 32 32 (ag (bM (sb s))) (by rfl) (fun h=>by cases h) (by rw [ai,bI]) hold.out ⟨g5,off5,none⟩ b.length c5 (ag b) (by rfl) (by rw [ai,aaA]) hnew.out aZ hf (by unfold maxLen;omega) (by omega) ?_;intro v' w' hown hgr)
 refine NoPanic.normal ?_;go_wp2_with fail;go_ret;rw [←hXb.out,←hXl.out] at hown;have e:=hX.out;subst e;exact ⟨_,rfl,hb5.trans (((Below.refl _ w5).grown hgr (aad _) (by intro k hk;cases hk)).mono hb5.size),Sl.of_own hown⟩
theorem UU (x y:List Nat) (hx:dL x) (hy:dL y) (W:World) (hG:ShaG W) :
  Calls prog 266 #[dig x,dig y] W (kL 1 (bM O8++(x++y)).length (ag (bM O8++(x++y))) W):=by
 unfold dig;have l1:(ag x).toArray.size=32:=by rw [aae,ai,hx.1]
 have l2:(ag y).toArray.size=32:=by rw [aae,ai,hy.1]
 go_enter func266,ntmps266;go_upto_region 1 with fail;have B1:=(Blk.new W 29 (ag x).toArray _ rfl).alloc (.cells (ag y).toArray 29);have B2:=Blk.new (W.alloc (.cells (ag x).toArray 29)) 29 (ag y).toArray _ rfl;have hb:=bAl (bAl (aj W) (.cells (ag x).toArray 29)) (.cells (ag y).toArray 29);have hn1:(W.alloc (.cells (ag x).toArray 29)).heap.size=W.heap.size+1:=by simp
 rw [hn1] at B2;clear hn1 l1 l2;generalize (W.alloc (.cells (ag x).toArray 29)).alloc (.cells (ag y).toArray 29)=w2 at *;have KS:Hid (∀ w':World,Below w2.heap.size w2 w'→True):=aab (fun _ _=>trivial);refine aK (f:=2) KS [(0,1),(1,1),(2,3),(3,3),(4,3)] ?_;simp only [bf,aap,aar]
 iterate 2 refine ak ?_
 refine aN ?_
 first | simp only [aak] | simp only [aat,aak]
 clear KS;replace B1:=Blk.dwM B1;replace B2:=Blk.dwM B2;replace hb:=bDr hb;replace hG:=hG.below hb;generalize w2.drew=w3 at *;have hbA:=bAl hb (.cells #[.slice (some ⟨W.heap.size,0,none⟩) 32 32,.slice (some ⟨W.heap.size+1,0,none⟩) 32 32] 83);have BS:=Blk.new w3 83 #[.slice (some ⟨W.heap.size,0,none⟩) 32 32,.slice (some ⟨W.heap.size+1,0,none⟩) 32 32] _ rfl;replace B1:=B1.alloc (.cells #[.slice (some ⟨W.heap.size,0,none⟩) 32 32,.slice (some ⟨W.heap.size+1,0,none⟩) 32 32] 83);replace B2:=B2.alloc (.cells #[.slice (some ⟨W.heap.size,0,none⟩) 32 32,.slice (some ⟨W.heap.size+1,0,none⟩) 32 32] 83)
 have q:=Nr ⟨#[110,111,100,101]⟩ (some ⟨w3.heap.size,0,none⟩) 2 2 (x++y) (w3.alloc (.cells #[.slice (some ⟨W.heap.size,0,none⟩) 32 32,.slice (some ⟨W.heap.size+1,0,none⟩) 32 32] 83))
  (fun w' h=>RN w3.heap.size 0 2 (some ⟨W.heap.size,0,none⟩) (some ⟨W.heap.size+1,0,none⟩) 32 32 x y w' (by rw [hx.1];exact (BS.below h BS.lt).cell 0) (by rw [hy.1];exact (BS.below h BS.lt).cell 1)
   ⟨by rw [ai,aaA],fun _=>⟨_,0,rfl,(B1.below h B1.lt).lt,fun j u hu=>by rw [aax,(B1.below h B1.lt).cell];simpa using hu⟩⟩
   ⟨by rw [ai,aaA],fun _=>⟨_,0,rfl,(B2.below h B2.lt).lt,fun j u hu=>by rw [aax,(B2.below h B2.lt).cell];simpa using hu⟩⟩ hx.2 hy.2 (by rw [hx.1];decide) (by rw [hy.1];decide) (by rw [hx.1,hy.1];decide) (by decide)) (by decide) (by rw [aan,hx.1];omega) (by rw [aan,hx.1,hy.1];decide) (hG.below (bAl (aj w3) _))
 have hnod:sb ⟨#[110,111,100,101]⟩=O8:=by decide
 rw [hnod] at q;generalize bM O8++(x++y)=X at *;clear BS B1 B2 hnod;go_wp2_with fail;refine q.mono ?_;rintro e w5 ⟨v5,rfl,b5,h5⟩;have hb5:=ah hbA b5;clear q;obtain ⟨A5,c5,rfl,hS5⟩:=h5;go_wp2_with fail;refine NoPanic.normal ?_;go_wp2_with fail;go_ret;exact ⟨_,rfl,hb5,A5,c5,rfl,hS5⟩
theorem UV (A:Option Addr) (c:Nat) (b:List Nat) (W:World) (hA:Rd W W.heap.size 1 A b.length (ag b)) (ho:okB b) (h0:0<b.length) (hl:b.length≤100000000000) (hG:ShaG W) :
  Calls prog 231 #[.slice A b.length c] W (Ret (dig (iJ b)) W):=by
 go_enter func231,ntmps231;go_upto_region 1 with fail;change Code.wp _ _ _ _ (W.alloc (.cells (ag (aF 32)).toArray 29));have BD:=Blk.new W 29 (ag (aF 32)).toArray _ rfl;have hb:=bAl (aj W) (.cells (ag (aF 32)).toArray 29);generalize W.alloc (.cells (ag (aF 32)).toArray 29)=w1 at *;have BS:=Blk.new w1 83 #[.slice A b.length c] _ rfl
 have q:=Nr ⟨#[108,101,97,102]⟩ (some ⟨w1.heap.size,0,none⟩) 1 1 b (w1.alloc (.cells #[.slice A b.length c] 83))
  (fun w' h=>join_one w1.heap.size 0 1 A c b w' ((BS.below h BS.lt).cell 0) (((hA.below hb).more hb.size).below ((bAl (aj w1) _).trans (h.mono (by simp))) |>.more (aaj (by simp) h.size)) ho h0 (by omega)) (by decide) h0 hl (hG.below (bAl hb _))
 have hlea:sb ⟨#[108,101,97,102]⟩=Rh:=by decide
 rw [hlea] at q;have hbA:=bAl hb (.cells #[.slice A b.length c] 83);replace BD:=BD.alloc (.cells #[.slice A b.length c] 83);have hX:Hid (iJ b=bM (bM Rh++b)):=aab rfl;have hXo:okB (bM Rh++b):=mP (kE _) ho;generalize bM Rh++b=X at *;clear hlea BS hb;go_wp2_with fail;refine q.mono ?_;rintro e w5 ⟨v5,rfl,b5,A5,c5,rfl,hR5,hc5,hc52,_⟩;have hb5:=ah hbA b5;have BD5:=BD.below b5 BD.lt;clear q BD hbA b5;go_wp2_with fail
 with_reducible refine (sum_any A5 _ c5 X w5 hR5 hXo hc5 hc52 (hG.below hb5)).mono ?_
 rintro e w6 ⟨rfl,b6⟩;have hb6:=ah hb5 b6;have BD6:=BD5.below b6 BD5.lt;clear hb5 b6 BD5 hR5;dsimp only;go_step;refine wpList_store_row rfl 29 (.tmp 2) (.tmp 6) rfl W.heap.size (ag (bM X)).toArray rfl rfl 29 _ BD6 (by rw [aae,ai,bI];exact aW) (by rw [aae,aae,ai,ai,bI];rfl) (fK _) ?_;have hb9:=below_setRow hb6 (aad _) (ag (bM X)).toArray;have BD9:Blk (w6.setRow W.heap.size (ag (bM X)).toArray) W.heap.size 29 (ag (bM X)).toArray:=setRow_heap w6 W.heap.size _ _ 29 _ BD6;go_wp2_with fail;exact bodyPost_ret (v:=dig (bM X)) (results_cell_row rfl _ _ W.heap.size 29 _ (0,0) _ rfl BD9 bQ rfl (by rw [aae,ai,bI];exact aW)) rfl ⟨by rw [hX.out],hb9⟩
def sF:Value := .agg #[.int .u8 0,.int .u8 0,.int .u8 0,.int .u8 0,.int .u8 0,.int .u8 0,.int .u8 0,.int .u8 0,.int .u8 0,.int .u8 0,.int .u8 0,.int .u8 0,.int .u8 0,.int .u8 0,.int .u8 0,.int .u8 0,.int .u8 0,.int .u8 0,.int .u8 0,.int .u8 0,.int .u8 0,.int .u8 0,.int .u8 0,.int .u8 0,.int .u8 0,.int .u8 0,.int .u8 0,.int .u8 0,.int .u8 0,.int .u8 0,.int .u8 0,.int .u8 0]
theorem dN:(prog.info? 29).map (fun i=>(i.zero,i.size,i.bytes))=some (some sF,32,32):=by kernel_rfl
theorem Cf {w:World} {b o:Nat} {d:List Nat} (hd:d.length=32) (hc:∀ j v,(ag d)[j]?=some v→w.cell? ⟨b,o+j,none⟩=some v) :
  (Instr.loadAt 29 (.pointer (some ⟨b,o,none⟩))).run prog w = .ok (.agg (ag d).toArray) w :=
 run_loadAt_mid w b o 29 (ag d) _ (fun j v hj=>hc j v hj) bQ rfl (by rw [ai,hd];exact aW)
theorem Eo {d:List Nat} (h:d.length=32):List.foldl (fun (cs:Array Value) (x:Value×Nat)=>cs.setIfInBounds x.snd x.fst) #[.int .u8 0,.int .u8 0,.int .u8 0,.int .u8 0,.int .u8 0,.int .u8 0,.int .u8 0,.int .u8 0,.int .u8 0,.int .u8 0,.int .u8 0,.int .u8 0,.int .u8 0,.int .u8 0,.int .u8 0,.int .u8 0,.int .u8 0,.int .u8 0,.int .u8 0,.int .u8 0,.int .u8 0,.int .u8 0,.int .u8 0,.int .u8 0,.int .u8 0,.int .u8 0,.int .u8 0,.int .u8 0,.int .u8 0,.int .u8 0,.int .u8 0,.int .u8 0] (ag d).zipIdx=(ag d).toArray:=by
 have hl:(ag d).length=32:=by rw [ai,h]
 apply Array.ext_getElem?;intro i;have e:=Ej 0 (ag d) 0 #[.int .u8 0,.int .u8 0,.int .u8 0,.int .u8 0,.int .u8 0,.int .u8 0,.int .u8 0,.int .u8 0,.int .u8 0,.int .u8 0,.int .u8 0,.int .u8 0,.int .u8 0,.int .u8 0,.int .u8 0,.int .u8 0,.int .u8 0,.int .u8 0,.int .u8 0,.int .u8 0,.int .u8 0,.int .u8 0,.int .u8 0,.int .u8 0,.int .u8 0,.int .u8 0,.int .u8 0,.int .u8 0,.int .u8 0,.int .u8 0,.int .u8 0,.int .u8 0] i (by rw [hl];decide);simp only [aax] at e;rw [e,hl];by_cases hi:i<32
 ·rw [if_pos ⟨aao _,hi⟩];simp
 ·rw [if_neg (fun h=>hi h.2),Array.getElem?_eq_none (by simp;omega),Array.getElem?_eq_none (by simp [hl];omega)]
def rowLen:Value→Nat
 | .slice _ n _=>n
 | _=>0
theorem Xi (A:Option Addr) (c:Nat) (l:List (List Nat)) (W:World) (hA:Rd W W.heap.size 32 A l.length (l.flatMap ag)) (hok:∀ d∈l,dL d) (hn:l.length≤1000) (hc:l.length≤c) (hc2:c≤9223372036854775807) (hnil:A=none→l.length=0∧c=0) (hG:ShaG W) :
  Calls prog 232 #[.slice A l.length c] W (RJ 29 32 (upN l).length ((upN l).flatMap ag) W):=by
 go_enter func232,ntmps232;go_wp2_with fail;go_loopw [0,2] (fun row nx wr=>∃ (D R:List (List Nat)) (A':Option Addr) (c' m k:Nat) (v:Value),row = .slice A' m c'∧nx=v∧Hid (D++upN R=upN l∧(∀ d∈R,dL d)∧R.length=m∧D.length=k)∧m≤c'∧c'≤9223372036854775807∧(A'=none→m=0∧c'=0)∧k+m≤1000∧Below W.heap.size W wr∧Rd W W.heap.size 32 A' m (R.flatMap ag)∧wr.ownsRow W.heap.size 29 32 v k (D.flatMap ag)) (fun row _ _=>rowLen row)
 case atStart=>exact ⟨[],l,A,c,l.length,0,_,rfl,rfl,aab ⟨rfl,hok,rfl,rfl⟩,hc,hc2,hnil,by omega,aj _,hA,World.ownsRow_nil _ _ _ _⟩
 case round =>
  clear hA hok hc hc2 hnil hn;obtain ⟨D,R,A',c',m,k,v,rfl,rfl,hdr,hc,hc2,hnil,hsum,hb,hR,hown⟩:=hrel;by_cases hlt:1<m
  ·obtain ⟨x,y,R,rfl⟩:∃ x y R',R=x::y::R':=by
    match R,hdr.out.2.2.1 with
    | x::y::R',_=>exact ⟨x,y,R',rfl⟩
    | [x],h=>simp at h;omega
    | [],h=>simp at h;omega
   have hi0:(0:Int)<(m:Int):=(by omega);have hj0:0<m:=(by omega);have hi1:(1:Int)<(m:Int):=(by omega);obtain ⟨b,off,rfl,hbb,hcc⟩:=hR.2 (by omega);have hx:dL x:=hdr.out.2.1 x (by simp);have hy:dL y:=hdr.out.2.1 y (by simp);have hlx:(ag x).length=32:=(by rw [ai,hx.1]);have hly:(ag y).length=32:=by rw [ai,hy.1]
   have c1:∀ j u,(ag x)[j]?=some u→W.cell? ⟨b,off+j,none⟩=some u:=fun j u hu=>hcc j u (by
    have hj:j<(ag x).length:=(aag.1 hu).1;rw [aaF,aaO hj];exact hu)
   have c2:∀ j u,(ag y)[j]?=some u→W.cell? ⟨b,off+32+j,none⟩=some u:=fun j u hu=>by
    have hj:j<(ag y).length:=(aag.1 hu).1
    have:=hcc (32+j) u (by rw [aaF,aaF,aaz (by omega),hlx,Nat.add_sub_cancel_left,aaO hj];exact hu)
    rwa [←aay] at this
   have KS:Hid (∀ w',Below wr.heap.size wr w'→(Instr.loadAt 29 (.pointer (some ⟨b,off,none⟩))).run prog w' = .ok (.agg (ag x).toArray) w'∧(Instr.loadAt 29 (.pointer (some ⟨b,off+32,none⟩))).run prog w' = .ok (.agg (ag y).toArray) w') :=
    aab (fun w' h=>⟨Cf hx.1 (fun j u hu=>(hb.trans (h.mono hb.size)).cell (p:=⟨b,off+j,none⟩) hbb |>.trans (c1 j u hu)),Cf hy.1 (fun j u hu=>(hb.trans (h.mono hb.size)).cell (p:=⟨b,off+32+j,none⟩) hbb |>.trans (c2 j u hu))⟩)
   clear c1 c2 hcc hlx hly;go_upto_region 2 with fail;refine aK (f:=7) KS [(0,1),(1,1),(2,1),(3,2),(4,1),(5,1),(6,2),(7,3),(8,3),(9,3),(10,3),(11,3)] ?_;simp only [bf,aap,aar]
   iterate 3 refine ak ?_
   refine ax (v:=?vq1) (hv:=?hq1) ?_;case hq1=>(intro w hSw;(first | refine (af rfl rfl hSw).trans ?_ | refine (af rfl rfl hSw.1).trans ?_ | refine (af rfl rfl hSw.2.1).trans ?_ | refine (af rfl rfl hSw.2.2.1).trans ?_ | refine (af rfl rfl hSw.2).trans ?_ | refine (af rfl rfl hSw.2.2).trans ?_);with_reducible rfl)
   iterate 2 refine ak ?_
   refine ax (v:=?vq2) (hv:=?hq2) ?_;case hq2=>(intro w hSw;(first | refine (af rfl rfl hSw).trans ?_ | refine (af rfl rfl hSw.1).trans ?_ | refine (af rfl rfl hSw.2.1).trans ?_ | refine (af rfl rfl hSw.2.2.1).trans ?_ | refine (af rfl rfl hSw.2).trans ?_ | refine (af rfl rfl hSw.2.2).trans ?_);with_reducible rfl)
   refine aN ?_
   first | simp only [aak] | simp only [aat,aak]
   have q:=UU x y hx hy wr.drew (hG.below (bDr hb));unfold dig at q;clear KS;generalize hX:bM O8++(x++y)=X at *;have hXo:Hid (Eg x y=bM X):=(by show _=_;rw [←hX];rfl);have hok2:okB X:=(by rw [←hX];exact mP (kE _) (mP hx.2 hy.2));clear hX hi0 hj0 hi1;replace hown:=hown.drew;replace hb:=bDr hb;generalize wr.drew=w2 at *;go_wp2_with fail;refine q.mono ?_;rintro e w5 ⟨v5,rfl,b5,A5,c5,rfl,hR5,hc5,hc52,_⟩;replace hown:=aC hown b5;replace hb:=ah hb b5;clear q b5;go_wp2_with fail
   with_reducible refine (sum_any A5 _ c5 X w5 hR5 hok2 hc5 hc52 (hG.below hb)).mono ?_
   rintro e w6 ⟨rfl,b6⟩;replace hown:=aC hown b6;replace hb:=ah hb b6;clear b6 hR5;have hN:(bM X).length=32:=bI X;have hlN:(ag (bM X)).length=32:=(by rw [ai,hN]);have hs6:=hb.size;have h63:k+1≤maxLen:=(by unfold maxLen;omega);have hby:(k+1)*32≤140737488355328:=(by omega);go_wp2_with (at_builtin;rw [Eo hN];refine aO w6 (ag (bM X)) (.tmp 6) (.tmp 15) 23 W.heap.size 29 sF 32 32 _ k (D.flatMap ag) (by rfl) (by rfl) underlying23 dN rfl (by omega) (by rfl) hown (by rfl) hlN aZ h63 hby hs6 ?_;intro v' w' hown4 hg4)
   refine NoPanic.normal ?_;go_wp2_with fail;obtain ⟨h1,h2,h3,h4⟩:=hdr.out;have hml:m=R.length+2:=(by rw [←h3];simp);refine ⟨⟨D++[Eg x y],R,_,c' - 2,m - 2,k+1,v',rfl,rfl,aab ⟨by rw [←h1,aaZ];rfl,fun d hd=>h2 d (by simp [hd]),by omega,by rw [aan,h4];rfl⟩,by omega,by omega,?_,by omega,hb.trans (hg4.below hown hs6),?_,?_⟩,?_⟩
   ·intro h;split at h <;> cases h
   ·have hl2:(ag x++ag y).length=64:=by rw [aan,ai,ai,hx.1,hy.1]
    have hdp:((x::y::R).flatMap ag).drop 64=R.flatMap ag:=by
     rw [aaF,aaF,←aaZ,List.drop_append,hl2,List.drop_of_length_le (by rw [hl2];exact aad _)];simp
    split
    ·obtain rfl:m=2:=by omega
     have hR0:R=[]:=abr (by omega);subst hR0;exact ⟨rfl,fun h=>absurd h (by omega)⟩
    ·have:=hR.cut 2 (by omega)
     rw [show 2*32=64 from rfl,hdp] at this;exact this
   ·rw [aaP,←show Eg x y=bM X from hXo.out] at *
    simpa using hown4
   ·show m - 2<m;omega
  ·have hRo:Hid (upN R=R):=by
    show _=_
    match R,hdr.out.2.2.1 with
    | [],_=>rfl
    | [x],_=>rfl
    | x::y::R',h=>simp at h;omega
   have hs6:=hb.size;have h63:k+m≤maxLen:=(by unfold maxLen;omega);have hby:(k+m)*32≤140737488355328:=by omega
   have h1c:∀ u∈R.flatMap ag,u.oneCell'=true:=by
    intro u hu;obtain ⟨d,_,hd⟩:=List.mem_flatMap.1 hu;exact aZ u hd
   have hRw:=hR.below hb;go_wp2_with (at_builtin;refine bT (.tmp 19) (.tmp 20) 23 W.heap.size 29 sF 32 32 _ k (D.flatMap ag) A' m c' W.heap.size (R.flatMap ag) (by rfl) (by rfl) underlying23 dN rfl (by omega) (by rfl) hown (by rfl) hRw hnil h1c h63 hby hs6 ?_;intro v' w' hown4 hg4)
   go_ret;obtain ⟨h1,h2,h3,h4⟩:=hdr.out;rw [hRo.out] at h1;refine ⟨_,rfl,hb.trans (hg4.below hown hs6),?_⟩;rw [←h1,aan,h3,h4,aaP];exact hown4
end
section
open Go Go.RowKit
theorem Wn (A:Option Addr) (c:Nat) (l:List (List Nat)) (d:List Nat) (W:World) (hA:Rd W W.heap.size 32 A l.length (l.flatMap ag)) (hok:∀ x∈l,dL x) (hd:dL d) (hr:xM l) (hn:l.length≤1000000) :
  Calls prog 58 #[.slice A l.length c,.agg (ag d).toArray,.func (.func 59) #[] #[]] W (Ret (.tuple #[.int .i64 (jU d l:Nat),.bool (decide (d∈l))]) W):=by
 have BD:=Blk.new W 29 (ag d).toArray _ rfl;have hb:=bAl (aj W) (.cells (ag d).toArray 29);have hd32:(ag d).toArray.size=32:=by rw [aae,ai,hd.1]
 go_enter func58,ntmps58;go_upto_region 1 with fail;generalize W.alloc (.cells (ag d).toArray 29)=w1 at *;go_wp2_with fail;go_loopw [9,10] (fun i j wr=>∃ a b:Nat,a≤b∧b≤l.length∧i = .int .i64 a∧j = .int .i64 b∧Below W.heap.size W wr∧Blk wr W.heap.size 29 (ag d).toArray∧Hid ((∀ k x,k<a→l[k]?=some x→bef x d=true)∧(∀ k x,b≤k→l[k]?=some x→bef x d=false))) (fun i j _=>(intOf j).toNat - (intOf i).toNat)
 case atStart=>exact ⟨0,l.length,aao _,aad _,rfl,rfl,hb,BD,aab ⟨fun k x h=>by omega,fun k x h hx=>by have:=(aag.1 hx).1;omega⟩⟩
 case round =>
  clear hb BD;obtain ⟨a,b,hab,hbl,rfl,rfl,hb,BD,hlo⟩:=hrel;by_cases hlt:a<b
  ·have i0:(a:Int)<(b:Int):=by omega
   obtain ⟨m,hm⟩:∃ m,m=(a+b) / 2:=⟨_,rfl⟩
   have em:Hid (((a:Int)+(b:Int)) / 2=(m:Int)):=aab (by omega);have hma:a≤m:=(by omega);have hmb:m<b:=(by omega);clear hm;have hml:m<l.length:=(by omega);obtain ⟨x,hx⟩:∃ x,l[m]?=some x:=⟨_,aac hml⟩
   have hxo:=hok x (aam hx);obtain ⟨bx,ox,rfl,lx,kx⟩:=zf (hA.below hb) hok hml hx;have hbz:=hb.size;have q:Hid (∀ w',Calls prog 59 #[.agg (ag x).toArray,.agg (ag d).toArray] w' (Ret (.int .i64 (nY x d)) w')):=aab (fun w'=>uX x d w' hxo hd)
   have KS:Hid (∀ w',Below wr.heap.size wr w'→((Instr.loadAt 29 (.pointer (some ⟨bx,ox+m*32,none⟩))).run prog w' = .ok (.agg (ag x).toArray) w'∧(Instr.loadAt 29 (.pointer (some ⟨W.heap.size,0,none⟩))).run prog w' = .ok (.agg (ag d).toArray) w')) :=
    aab (fun w' h=>⟨fF (fun j u hj=>(h.cell (p:=⟨bx,ox+m*32+j,none⟩) (by show bx<_;omega)).trans (kx j u hj)) hxo.1,bg (BD.below h BD.lt) bQ rfl (by rw [hd32];exact aW)⟩)
   have hcb:=aab (Bq x d (by rw [hxo.1,hd.1]));have i1:(0:Int)≤(m:Int):=(by omega);have i2:(m:Int)<(l.length:Int):=(by omega);have i3:IntKind.i64.wrap ((m:Int)+1)=(m:Int)+1:=(by rw [IntKind.wrap_i64];omega);go_upto_region 5 with fail;simp only [em.out];clear em kx;generalize nY x d=cv at *
   have hsort:Hid (∀ (k1 k2:Nat) (y z:List Nat),k1<k2→l[k1]?=some y→l[k2]?=some z→bef y z=true):=aab (fun k1 k2 y z h h1 h2=>by
    obtain ⟨p1,e1⟩:=aag.1 h1;obtain ⟨p2,e2⟩:=aag.1 h2
    have:=abp.1 hr k1 k2 p1 p2 h
    rwa [e1,e2] at this)
   refine aK (f:=7) KS [(0,1),(1,1),(2,1),(3,1),(4,2),(5,2),(6,0),(7,3)] ?_;simp only [bf,aap,aar]
   iterate 4 refine ak ?_
   refine ax (v:=?vq1) (hv:=?hq1) ?_;case hq1=>(intro w hSw;(first | refine (af rfl rfl hSw).trans ?_ | refine (af rfl rfl hSw.1).trans ?_ | refine (af rfl rfl hSw.2.1).trans ?_ | refine (af rfl rfl hSw.2.2.1).trans ?_ | refine (af rfl rfl hSw.2).trans ?_ | refine (af rfl rfl hSw.2.2).trans ?_);with_reducible rfl)
   refine ax (v:=?vq2) (hv:=?hq2) ?_;case hq2=>(intro w hSw;(first | refine (af rfl rfl hSw).trans ?_ | refine (af rfl rfl hSw.1).trans ?_ | refine (af rfl rfl hSw.2.1).trans ?_ | refine (af rfl rfl hSw.2.2.1).trans ?_ | refine (af rfl rfl hSw.2).trans ?_ | refine (af rfl rfl hSw.2.2).trans ?_);with_reducible rfl)
   refine au (fun K hK=>?_);go_simp;(first | (go_at_call 59;(with_reducible refine (q.out _).mono ?_);rintro e w6 ⟨rfl,b6⟩;have B6:Below wr.heap.size wr w6:=ah (bDr (aj _)) b6) | skip);refine aH hK KS ?_;clear hK K;refine aN ?_
   first | simp only [aak] | simp only [aat,aak]
   clear KS q;replace BD:=BD.below B6 BD.lt;replace hb:=ah hb B6;clear B6 b6;by_cases hc:cv<0
   ·have hlo2:Hid ((∀ k y,k<m+1→l[k]?=some y→bef y d=true)∧(∀ k y,b≤k→l[k]?=some y→bef y d=false)):=aab ⟨fun k y hk hy=>by
     rcases aa0 k m with h | h
     ·exact ng _ _ _ (hsort.out _ _ _ _ h hy hx) (hcb.out.1 hc)
     ·obtain rfl:k=m:=by omega
      rw [hx] at hy;injection hy with hy;subst hy
      exact hcb.out.1 hc,hlo.out.2⟩
    clear hsort;go_wp2_with fail;refine NoPanic.normal ?_;go_wp2_with fail;exact ⟨⟨m+1,b,by omega,hbl,by go_num,rfl,hb,BD,hlo2⟩,by simp [intOf];omega⟩
   ·have hbf:bef x d=false:=by
     cases h:bef x d
     ·rfl
     ·exact absurd (hcb.out.2 h) hc
    have hlo2:Hid ((∀ k y,k<a→l[k]?=some y→bef y d=true)∧(∀ k y,m≤k→l[k]?=some y→bef y d=false)):=aab ⟨hlo.out.1,fun k y hk hy=>by
     rcases Nat.eq_or_lt_of_le hk with rfl | h
     ·rw [hx] at hy;injection hy with hy;subst hy;exact hbf
     ·cases h2:bef y d
      ·rfl
      ·have:=ng _ _ _ (hsort.out _ _ _ _ h hx hy) h2
       rw [hbf] at this;cases this⟩
    clear hsort;go_wp2_with fail;refine NoPanic.normal ?_;go_wp2_with fail;exact ⟨⟨a,m,by omega,by omega,rfl,rfl,hb,BD,hlo2⟩,by simp [intOf];omega⟩
  ·obtain rfl:a=b:=by omega
   have i0:¬(a:Int)<(a:Int):=(by omega);have hab2:=Ur hr hbl hlo.out.1 hlo.out.2;have hin:=Us (d:=d) hr;rw [←hab2] at hin;obtain ⟨R,hR⟩:∃ R,decide (d∈l)=R:=⟨_,rfl⟩
   have hab3:=aab hab2;have hR3:=aab hR;clear hab2 hR;by_cases han:a<l.length
   ·obtain ⟨x,hx⟩:∃ x,l[a]?=some x:=⟨_,aac han⟩
    have hxo:=hok x (aam hx);obtain ⟨bx,ox,rfl,lx,kx⟩:=zf (hA.below hb) hok han hx;have hbz:=hb.size
    have hRe:Hid (R=decide (nY x d=0)):=by
     show _=_;rw [←hR3.out];refine decide_eq_decide.2 ?_;rw [hin,hx,Nc]
     simp
    have q:Hid (∀ w',Calls prog 59 #[.agg (ag x).toArray,.agg (ag d).toArray] w' (Ret (.int .i64 (nY x d)) w')):=aab (fun w'=>uX x d w' hxo hd)
    have KS:Hid (∀ w',Below wr.heap.size wr w'→((Instr.loadAt 29 (.pointer (some ⟨bx,ox+a*32,none⟩))).run prog w' = .ok (.agg (ag x).toArray) w'∧(Instr.loadAt 29 (.pointer (some ⟨W.heap.size,0,none⟩))).run prog w' = .ok (.agg (ag d).toArray) w')) :=
     aab (fun w' h=>⟨fF (fun j u hj=>(h.cell (p:=⟨bx,ox+a*32+j,none⟩) (by show bx<_;omega)).trans (kx j u hj)) hxo.1,bg (BD.below h BD.lt) bQ rfl (by rw [hd32];exact aW)⟩)
    have i1:(0:Int)≤(a:Int):=(by omega);have i2:(a:Int)<(l.length:Int):=(by omega);go_upto_region 8 with fail;clear kx hin hx;generalize nY x d=cv at *;refine aK (f:=14) KS [(0,1),(1,1),(2,1),(3,1),(4,1),(5,1),(6,1),(7,1),(8,1),(9,2),(10,2),(11,0),(12,1),(13,1),(14,3),(15,3)] ?_;simp only [bf,aap,aar]
    iterate 9 refine ak ?_
    refine ax (v:=?vq3) (hv:=?hq3) ?_;case hq3=>(intro w hSw;(first | refine (af rfl rfl hSw).trans ?_ | refine (af rfl rfl hSw.1).trans ?_ | refine (af rfl rfl hSw.2.1).trans ?_ | refine (af rfl rfl hSw.2.2.1).trans ?_ | refine (af rfl rfl hSw.2).trans ?_ | refine (af rfl rfl hSw.2.2).trans ?_);with_reducible rfl)
    refine ax (v:=?vq4) (hv:=?hq4) ?_;case hq4=>(intro w hSw;(first | refine (af rfl rfl hSw).trans ?_ | refine (af rfl rfl hSw.1).trans ?_ | refine (af rfl rfl hSw.2.1).trans ?_ | refine (af rfl rfl hSw.2.2.1).trans ?_ | refine (af rfl rfl hSw.2).trans ?_ | refine (af rfl rfl hSw.2.2).trans ?_);with_reducible rfl)
    refine au (fun K hK=>?_);go_simp;(first | (go_at_call 59;(with_reducible refine (q.out _).mono ?_);rintro e w6 ⟨rfl,b6⟩;have B6:Below wr.heap.size wr w6:=ah (bDr (aj _)) b6) | skip);refine aH hK KS ?_;clear hK K
    iterate 2 refine ak ?_
    refine aN ?_
    first | simp only [aak] | simp only [aat,aak]
    replace hb:=ah hb B6;go_wp2_with fail;refine NoPanic.normal ?_;go_wp2_with fail;go_ret2;exact ⟨by rw [←hab3.out,hR3.out,hRe.out];rfl,hb⟩
   ·have hRe:Hid (R=false):=by
     show _=_;rw [←hR3.out];refine decide_eq_false fun h=>?_;have h2:=hin.1 h
     have:=(aag.1 h2).1
     omega
    have i2:¬(a:Int)<(l.length:Int):=(by omega);have KS:Hid (∀ w',Below wr.heap.size wr w'→True):=aab (fun _ _=>trivial);go_upto_region 8 with fail;clear hin;refine aK (f:=14) KS [(0,1),(1,1),(2,1),(3,1),(4,1),(5,1),(6,1),(7,1),(8,1),(9,1),(10,1),(11,0),(12,1),(13,1),(14,3),(15,3)] ?_;simp only [bf,aap,aar]
    iterate 5 refine ak ?_
    iterate 6 refine dC ?_
    refine au (fun K hK=>?_);go_simp;refine aH hK KS ?_;clear hK K;refine dC ?_;refine ak ?_;refine aN ?_
    first | simp only [aak] | simp only [aat,aak]
    go_wp2_with fail;refine NoPanic.normal ?_;go_wp2_with fail;go_ret2;exact ⟨by rw [←hab3.out,hR3.out,hRe.out];rfl,bDr hb⟩
end
end Go.Proofs.YthbibbkbaphpkaaGreatDoor

/- slices.AppendSeq and Collect of slices of bytes; walked. -/
import Derived.Test.YtoeobcmmafncmaaGreatDoorSbd
import Derived.RangeFuncBox
import Derived.OwnWalkIn
import Derived.Test.YtoeobcmmafncmaaGreatDoorSao
import Derived.Shelf.Bytes.SlJoin
import Derived.ArgAppend
import Derived.Test.YtoeobcmmafncmaaGreatDoorSaq
import Derived.Test.YtoeobcmmafncmaaGreatDoorSbc
import Derived.Test.YtoeobcmmafncmaaGreatDoorSar
import Derived.Test.YtoeobcmmafncmaaGreatDoorSap
set_option maxRecDepth 1000000
set_option maxHeartbeats 16000000
namespace Go.Proofs.YtoeobcmmafncmaaGreatDoor
open Go.RowKit
attribute [local go_sem] Oper.semAt_some
theorem Blk.not_row {W:World} {g:Nat} {t e:TypeId} {cs:Array Value} (h:Blk W g t cs) (hte:t≠e) {base size k:Nat} {v:Value} {xs:List Value} (hr:W.ownsRow base e size v k xs):some g≠v.ownBlock:=by
 rcases hr.2 with ⟨rfl,_⟩ | ⟨g2,cap,cur,rfl,_,hgb,_⟩
 ·simp [Value.ownBlock]
 ·intro e2
  have e3:g=g2:=by simpa [Value.ownBlock] using e2
  subst e3
  unfold Blk at h
  rw [h] at hgb
  simp at hgb
  exact hte hgb.2
theorem TxAt.app {W w1:World} {B n₀ k:Nat} {v x:Value} {t:List Nat} {xs:List Value} {tmp:Obj} {u v':Value} (h:TxAt W x t) (hv:Blk W B 121 #[u]) (hrow:W.ownsRow n₀ 123 1 v k xs) (hgrow:(W.alloc tmp).grownBy w1 v.ownBlock):TxAt (w1.setCell ⟨B,0,none⟩ v') x t:=by
 obtain ⟨g,cap,cur,hx,hB,h1⟩:=h
 refine ⟨g,cap,cur,hx,?_,h1⟩
 have h2:Blk w1 g 5 cur:=(hgrow.block g (by simp;have:=hB.lt;omega) (hB.not_row (by decide) hrow)).trans (hB.alloc tmp)
 exact h2.far (p:=⟨B,0,none⟩) (hB.neT hv (by decide)) _
theorem KeepsC.of_below {B:Nat} {X Y:World} (h:Below B X Y):KeepsC (fun k=>k<B) X Y:=⟨h.size,fun k _ _ _ hk _=>h.block k hk⟩
theorem bytes_info:(Tryz.prog.info? 123).map (fun i=>(i.zero,i.size,i.bytes))=some (some (.slice none 0 0),1,24):=by kernel_rfl
theorem own_kept {W W':World} {base:Nat} {e:TypeId} {size:Nat} {v:Value} {k:Nat} {xs:List Value} {row:Option Nat} {B:Nat} (h:W.ownsRow base e size v k xs) (hg:W.grownBy W' row) (hr:∀ r,row=some r→B≤r∧∃ o:Obj,W.heap[r]?=some o∧o.isCells=false):W'.ownsRow base e size v k xs:=by
 refine h.kept hg ?_
 rcases h.2 with ⟨rfl,_⟩ | ⟨g,cap,cur,rfl,_,hgb,_⟩
 ·exact .inl rfl
 ·refine .inr fun e'=>?_
  obtain ⟨_,o,ho,hw⟩:=hr g (by simpa [Value.ownBlock] using e'.symm)
  rw [hgb] at ho;cases ho;cases hw
def GotAt (ts:List (List Nat)) (w:World) (pre:List Value) (W:World):Prop:=∃ v,Blk W w.heap.size 121 #[v]∧W.ownsRow w.heap.size 123 1 v pre.length pre∧(∀ (k:Nat) (u:Value) (t:List Nat),pre[k]?=some u→ts[k]?=some t→TxAt W u t)∧Below w.heap.size w W
theorem GotAt.kept {ts:List (List Nat)} {w:World} {pre:List Value} {W W':World} {row:Option Nat} {B:Nat} (h:GotAt ts w pre W) (hB:w.heap.size≤B) (hg:W.grownBy W' row) (hr:∀ r,row=some r→B≤r∧∃ o:Obj,W.heap[r]?=some o∧o.isCells=false):GotAt ts w pre W':=by
 obtain ⟨v,h1,h2,h3,h4⟩:=h
 exact ⟨v,h1.kept hg hr,own_kept h2 hg hr,fun k u t hu ht=>(h3 k u t hu ht).kept hg hr,bGrown h4 hg hB hr⟩
theorem col_append (gf:Nat) (lb:Array Value) (eg:∀ args w,(callFunc gf args).run Tryz.prog w = .ok (.enter gf args) w) (ts:List (List Nat)) (w:World) (hn:ts.length≤1000)
  (hseq:SeqG (2+1) Tryz.prog gf lb (fun v:Value=>#[v]) (KeepsC (fun k=>k<w.heap.size)) (fun ys=>ys.length=ts.length) (fun _=>True) ts.length w (fun pre v W=>∃ t,ts[pre.length]?=some t∧TxAt W v t)) :
  Calls Tryz.prog 100 #[.slice none 0 0,.func (.func gf) #[] lb] w (fun e w'=>∃ (v:Value) (vs:List Value),e = .returned v∧vs.length=ts.length∧Below w.heap.size w w'∧w'.ownsRow w.heap.size 123 1 v vs.length vs∧∀ (k:Nat) (u:Value) (t:List Nat),vs[k]?=some u→ts[k]?=some t→TxAt w' u t):=by
 refine calls_of_wp_dm Tryz.func100 rfl ?_
 simp only [Tryz.ntmps100,List.size_toArray,List.length_cons,List.length_nil,Nat.reduceAdd,Nat.reduceSub,Array.replicate_succ,Array.replicate_zero,List.push_toArray,List.append_toArray,List.nil_append,List.cons_append]
 go_wp2_with fail
 have hI0:GotAt ts w [] (w.alloc (.cells #[.slice none 0 0] 121)):=⟨_,Blk.new w _ _ _ rfl,World.ownsRow_nil _ _ _ _,fun k u t hu _=>by simp at hu,bAl (bRefl w) _⟩
 have hb0:Below w.heap.size w (w.alloc (.cells #[.slice none 0 0] 121)):=bAl (bRefl w) _
 generalize w.alloc (.cells #[.slice none 0 0] 121)=w1 at *
 refine wp_rangeFuncG 2 (gf:=gf) (lb:=lb) rfl eg (w0:=w) hseq KeepsC.trans (fun W l o o' _ hl ho _=>KeepsC.put W l o o' hl ho) hb0 (fun _=>rfl)
   (fun pre W'=>GotAt ts w pre W')
   (fun x a₁ pre W'=>(GotAt ts w pre W'∧∃ t,ts[pre.length]?=some t∧TxAt W' x t)∧a₁={ tmps:=#[.slice none 0 0,.func (.func gf) #[] lb,.pointer (some ⟨w.heap.size,0,none⟩),undef,.slice none 0 0,x,.func (.func gf) #[] lb,x,undef,undef,undef,undef,undef],defers:=[] })
   (fun _ _ _=>False)
   (fun pre A' B' row h hg hr=>h.kept hb0.size hg hr)
   (fun x a pre A' B' row h hg hr=>⟨⟨h.1.1.kept hb0.size hg hr,by obtain ⟨t,ht,h2⟩:=h.1.2;exact ⟨t,ht,h2.kept hg hr⟩⟩,h.2⟩)
   (fun _ _ _ _ _ h _ _=>h)
   hI0 ?assign ?body ?done ?stop
 case assign =>
  rintro L pre x Wc hI ⟨t,ht,hT⟩ hlen
  gi_wp2
  exact ⟨KeepsOthers.refl _,KeepsC.refl _ _,⟨hI,t,ht,hT⟩,trivial⟩
 case body =>
  rintro L pre x a₁ Wc ⟨⟨⟨v,hB,hown,hTs,hb⟩,t,ht,hT⟩,rfl⟩ hlen
  have d1:Wc.cell? ⟨w.heap.size,0,none⟩=some v:=hB.cell 0
  obtain ⟨i0,hi,hz0,hz1,hz2⟩:=info_parts bytes_info
  have hi':=Lib.hid hi
  have hz0':=Lib.hid hz0
  have hz1':=Lib.hid hz1
  have hz2':=Lib.hid hz2
  obtain ⟨gx,cx,curx,hxe,hx2⟩:=id hT
  have h63:pre.length+1≤maxLen:=by unfold maxLen;omega
  have hby:(pre.length+1)*24≤140737488355328:=by omega
  have hbs:w.heap.size≤(Wc.alloc (.cells #[x] 123)).heap.size:=by have:=hb.size;simp;omega
  subst hxe
  have hone:∀ u∈[Value.slice (some ⟨gx,0,none⟩) t.length cx],u.oneCell'=true:=by intro u hu;simp at hu;subst hu;rfl
  clear hi hz0 hz1 hz2 hx2
  gi_wp2_with (gi_at_builtin;refine wpListIn_append_own _ (by rfl) (.tmp 8) (.tmp 10) 121 (by rfl) w.heap.size 123 i0 (.slice none 0 0) 1 24 Tryz.underlying121 hi'.out hz0'.out hz1'.out hz2'.out rfl (by decide) v pre.length pre (by rfl) (hown.alloc _) ⟨Wc.heap.size,0,none⟩ 1 1 [.slice (some ⟨gx,0,none⟩) t.length cx] (by rfl) (by rfl) (cell_one_new _ _ _) hone h63 hby hbs ?_;intro v' w3 hown3 hg3 _;obtain ⟨g',cap',rfl⟩:=ownsRow_succ hown3;obtain ⟨a1,a2,a3,a4,a5⟩:=Boxed.appended (B:=w.heap.size) hB (by decide) hown hb.size (Nat.le_refl _) hown3 hg3;have d3:=a1.cell;have z3:=a1.frozen)
  refine ⟨a4,KeepsC.of_below a5,_,a2,by rw [List.length_append];exact a3,fun k u s hu hs=>?_,hb.trans a5⟩
  by_cases hk:k<pre.length
  ·rw [List.getElem?_append_left hk] at hu
   exact (hTs k u s hu hs).app hB hown hg3
  ·rw [List.getElem?_append_right (by omega)] at hu
   have hk0:k - pre.length=0:=by
    rcases Nat.eq_zero_or_pos (k - pre.length) with h | h
    ·exact h
    ·obtain ⟨m,hm⟩:∃ m,k - pre.length=m+1:=⟨k - pre.length - 1,by omega⟩
     rw [hm] at hu;simp at hu
   have hke:k=pre.length:=by omega
   subst hke
   rw [hk0] at hu
   simp at hu
   rw [ht] at hs
   injection hs with hs
   subst hs;subst hu
   exact hT.app hB hown hg3
 case done =>
  rintro D xs Wc hD hp ⟨v,hB,hown,hTs,hb⟩ hd
  have d1:Wc.cell? ⟨w.heap.size,0,none⟩=some v:=hB.cell 0
  go_wp2_with fail
  refine leavesM_mark (by simp) hd ?_
  refine ⟨v,by simp [results,Tryz.results100,go_sem],v,xs,rfl,hp,bPut hb (Nat.le_trans hb0.size hD) _,ownsRow_putObj hown _ hd rfl,fun k u t hu ht=>(hTs k u t hu ht).kept (B:=0) (grownBy_putObj' Wc D _) (fun r e=>by cases e;exact ⟨Nat.zero_le _,_,hd,rfl⟩)⟩
 case stop =>
  rintro D c' pre Wc _ _ h _
  exact h.elim
theorem col_collect (gf:Nat) (lb:Array Value) (eg:∀ args w,(callFunc gf args).run Tryz.prog w = .ok (.enter gf args) w) (ts:List (List Nat)) (w:World) (hn:ts.length≤1000)
  (hseq:SeqG (2+1) Tryz.prog gf lb (fun v:Value=>#[v]) (KeepsC (fun k=>k<w.heap.size)) (fun ys=>ys.length=ts.length) (fun _=>True) ts.length w (fun pre v W=>∃ t,ts[pre.length]?=some t∧TxAt W v t)) :
  Calls Tryz.prog 62 #[.func (.func gf) #[] lb] w (fun e w'=>∃ (v:Value) (vs:List Value),e = .returned v∧vs.length=ts.length∧Below w.heap.size w w'∧w'.ownsRow w.heap.size 123 1 v vs.length vs∧∀ (k:Nat) (u:Value) (t:List Nat),vs[k]?=some u→ts[k]?=some t→TxAt w' u t):=by
 have q:=col_append gf lb eg ts w hn hseq
 clear hseq eg
 go_enter Tryz.func62,Tryz.ntmps62
 go_wp2_with fail
 (with_reducible refine q.mono ?_)
 rintro e w1 ⟨v,vs,rfl,h1,h2,h3,h4⟩
 clear q
 go_wp2_with fail
 go_ret
 exact ⟨v,vs,rfl,h1,h2,h3,h4⟩
end Go.Proofs.YtoeobcmmafncmaaGreatDoor
namespace Go.Proofs.YtoeobcmmafncmaaGreatDoor
open Go.RowKit
def joinR:Go.Shelf.Ren where
 f:=fun k=>if k=14 then 176 else 183
 t:=fun k=>if k=0 then 0 else if k=3 then 3 else if k=4 then 4 else if k=9 then 9 else if k=20 then 20 else if k=22 then 123 else if k=26 then 121 else 5
 g:=fun k=>k
theorem joinL:SlLaysJ.n14 Tryz.prog joinR where
 mixed:=by kernel_rfl
 f14:=by kernel_rfl
 f15:=by kernel_rfl
 t0:=by kernel_rfl
 a0:=by intro w;kernel_rfl
 z0:=by intro w;kernel_rfl
 v0:=by intro w;kernel_rfl
 t3:=by kernel_rfl
 a3:=by intro w;kernel_rfl
 z3:=by intro w;kernel_rfl
 v3:=by intro w;kernel_rfl
 t4:=by kernel_rfl
 a4:=by intro w;kernel_rfl
 z4:=by intro w;kernel_rfl
 v4:=by intro w;kernel_rfl
 t9:=by kernel_rfl
 a9:=by intro w;kernel_rfl
 z9:=by intro w;kernel_rfl
 v9:=by intro w;kernel_rfl
 t20:=by kernel_rfl
 a20:=by intro w;kernel_rfl
 z20:=by intro w;kernel_rfl
 v20:=by intro w;kernel_rfl
 t22:=by kernel_rfl
 a22:=by intro w;kernel_rfl
 z22:=by intro w;kernel_rfl
 v22:=by intro w;kernel_rfl
 t26:=by kernel_rfl
 a26:=by intro w;kernel_rfl
 z26:=by intro w;kernel_rfl
 v26:=by intro w;kernel_rfl
 t5:=by kernel_rfl
 z5:=by intro w;kernel_rfl
 i5:=by kernel_rfl
theorem dgB_len (d:List Nat):(dgB d).length=d.length:=by simp [dgB]
theorem dgB_get {d:List Nat} (ho:okB d) {i:Nat} {x:UInt8} (h:(dgB d)[i]?=some x):d[i]?=some x.toNat:=by
 unfold dgB at h
 rw [List.getElem?_map] at h
 cases hd:d[i]? with
 | none=>rw [hd] at h;cases h
 | some n =>
  rw [hd] at h
  simp at h
  subst h
  have:=ho n (List.mem_of_getElem? hd)
  simp [Nat.mod_eq_of_lt this]
theorem fresh_sl {B:Nat} {w':World} {v:Value} {d:List Nat} (ho:okB d) (h0:0<d.length) (h:Lib.FreshBytes B w' v (dgB d)):Sl w' w'.heap.size 1 v d.length (byts d):=by
 obtain ⟨g,cap,zs,rfl,_,hl,hm,hz,hr,hb,hc,_⟩:=h
 rw [dgB_len] at hl
 have hcell:∀ j u,(byts d)[j]?=some u→w'.cell? ⟨g,0+j,none⟩=some u:=by
  intro j u hu
  have hj:j<d.length:=by
   have:=(List.getElem?_eq_some_iff.1 hu).1
   rwa [byts_length] at this
  have e1:=hc j (by omega)
  have hzj:j<zs.length:=by omega
  have e2:zs.getD j 0=zs[j]:=by simp [List.getD,hzj]
  rw [Nat.zero_add,e1,e2]
  have hrg:=hr zs[j] (List.getElem_mem hzj)
  have hbj:(dgB d)[j]?=some (UInt8.ofNat zs[j].toNat):=by
   rw [←hb]
   unfold Lib.bytesOf
   rw [List.getElem?_map,List.getElem?_take,if_pos (by rw [dgB_len];exact hj),List.getElem?_eq_getElem hzj]
   rfl
  have:=dgB_get ho hbj
  have hu2:=byts_at this
  rw [hu] at hu2
  have ez:((UInt8.ofNat zs[j].toNat).toNat:Int)=zs[j]:=by
   rw [UInt8.toNat_ofNat']
   omega
  rw [ez] at hu2
  exact hu2.symm
 refine ⟨_,_,by rw [dgB_len],⟨by rw [byts_length,Nat.mul_one],fun _=>⟨g,0,rfl,?_,hcell⟩⟩,hl,hm,fun h=>by cases h⟩
 obtain ⟨x,hx⟩:∃ x,d[0]?=some x:=⟨_,List.getElem?_eq_getElem h0⟩
 have h1:=hcell 0 _ (byts_at hx)
 rw [Nat.zero_add] at h1
 unfold World.cell? at h1
 cases hh:w'.heap[g]? with
 | none=>rw [show (⟨g,0,none⟩:Addr).block=g from rfl,hh] at h1;simp at h1
 | some o=>exact (Array.getElem?_eq_some_iff.1 hh).1
theorem byts_u8 {d:List Nat} {i:Nat} {x:UInt8} (ho:okB d) (h:(dgB d)[i]?=some x):(byts d)[i]?=some (.int .u8 (x.toNat:Int)):=byts_at (dgB_get ho h)
theorem join_one (b o c:Nat) (A:Option Addr) (c0:Nat) (d:List Nat) (W:World) (hcell:W.cell? ⟨b,o,none⟩=some (.slice A d.length c0)) (hR:Rd W W.heap.size 1 A d.length (byts d)) (ho:okB d) (h0:0<d.length) (hs:d.length≤140737488355328) :
  Calls Tryz.prog 176 #[.slice (some ⟨b,o,none⟩) 1 c,.slice none 0 0] W (RetSl 1 d.length (byts d) W):=by
 obtain ⟨g,off,rfl,_,hc⟩:=hR.2 h0
 have q:=Any.bytes_Join_one joinL b o c ⟨g,off,none⟩ c0 (dgB d) (.slice none 0 0) W (by rw [dgB_len];exact hcell) (fun i x hx=>by rw [addr_plus];exact hc i _ (byts_u8 ho hx)) (by rw [dgB_len];exact h0) (by rw [dgB_len];exact hs)
 refine Calls.mono q ?_
 rintro e w' ⟨v,rfl,hf,hb⟩
 exact ⟨v,rfl,hb,fresh_sl ho h0 hf⟩
theorem join_two (b o c:Nat) (A B:Option Addr) (ca cb:Nat) (d f:List Nat) (W:World) (k1:W.cell? ⟨b,o,none⟩=some (.slice A d.length ca)) (k2:W.cell? ⟨b,o+1,none⟩=some (.slice B f.length cb)) (hA:Rd W W.heap.size 1 A d.length (byts d)) (hB:Rd W W.heap.size 1 B f.length (byts f))
  (ho:okB d) (hf:okB f) (h0:0<d.length) (h1:0<f.length) (hs:d.length+f.length≤140737488355328) (h2:2≤c) :
  Calls Tryz.prog 176 #[.slice (some ⟨b,o,none⟩) 2 c,.slice none 0 0] W (RetSl 1 (d++f).length (byts (d++f)) W):=by
 obtain ⟨g,off,rfl,_,hc⟩:=hA.2 h0
 obtain ⟨g2,off2,rfl,_,hc2⟩:=hB.2 h1
 have q:=Any.bytes_Join_many joinL b o 2 c [.slice (some ⟨g,off,none⟩) d.length ca,.slice (some ⟨g2,off2,none⟩) f.length cb] [dgB d,dgB f] (.slice none 0 0) [] W rfl (by omega) ⟨rfl,fun i v hv=>(by
   rw [addr_plus]
   match i,hv with
   | 0,hv=>simp at hv;subst hv;exact k1
   | 1,hv=>simp at hv;subst hv;exact k2
   | i+2,hv=>simp at hv),fun i v l hv hl=>(by
   match i,hv,hl with
   | 0,hv,hl=>simp at hv hl;subst hv;subst hl;exact ⟨some ⟨g,off,none⟩,ca,by rw [dgB_len],(fun h=>by cases h),fun a ha i x hx=>by injection ha with ha;subst ha;rw [addr_plus];exact hc i _ (byts_u8 ho hx)⟩
   | 1,hv,hl=>simp at hv hl;subst hv;subst hl;exact ⟨some ⟨g2,off2,none⟩,cb,by rw [dgB_len],(fun h=>by cases h),fun a ha i x hx=>by injection ha with ha;subst ha;rw [addr_plus];exact hc2 i _ (byts_u8 hf hx)⟩
   | i+2,hv,hl=>simp at hv)⟩ h2 ⟨none,0,rfl,fun _=>rfl,fun a ha=>by cases ha⟩ (by omega) (by simp [Lib.lens,dgB_len];omega)
 refine Calls.mono q ?_
 rintro e w' ⟨v,rfl,hfr,hb⟩
 have hj:Lib.join [dgB d,dgB f] []=dgB (d++f):=by simp [Lib.join,List.intercalate,dgB]
 rw [hj] at hfr
 exact ⟨v,rfl,hb,fresh_sl (okB_app ho hf) (by simp;omega) hfr⟩
theorem Blk.dwM {w:World} {g:Nat} {t:TypeId} {cs:Array Value} (h:Blk w g t cs):Blk w.drew g t cs:=h
theorem mk_text (s:ByteArray) (A:Option Addr) (n c:Nat) (b:List Nat) (W:World) (hj:∀ w',Below W.heap.size W w'→Calls Tryz.prog 176 #[.slice A n c,.slice none 0 0] w' (RetSl 1 b.length (byts b) w'))
  (hs:s.size≤1000000) (h0:0<b.length) (hb0:b.length≤100000000000) (hG:ShaG W) :
  Calls Tryz.prog 154 #[.string s,.slice A n c] W (RetSl 1 (shaN (sb s)++b).length (byts (shaN (sb s)++b)) W):=by
 replace hj:=Lib.hid hj
 go_enter Tryz.func154,Tryz.ntmps154
 have hcv:=fun (w:World)=>Lib.run_convert_string_bytes (P:=Tryz.prog) w 9 123 5 s Tryz.underlying9 Tryz.underlying123 Tryz.underlying5
 go_wp2_with fail
 refine (sum_any _ _ _ (sb s) _ (by exact rd_bytes W _ s _ rfl) (sb_ok s) (by exact grownCap_ge _ _ _ _) (by exact grownCap_le_maxLen _ _ _ _ (by unfold maxLen;omega)) (by exact hG.below (below_bytes _ _ _))).mono ?_
 rintro e w2 ⟨rfl,b2⟩
 have hb2:=bCall (below_bytes W 5 s) b2
 clear b2 hcv
 have st1:=store_dig (shaN (sb s)) (shaN_len _)
 have ln1:(byts (shaN (sb s))).length=32:=by rw [byts_length,shaN_len]
 go_upto_region 2 with fail
 have BT:=Blk.new w2 49 (byts (shaN (sb s))).toArray _ rfl
 have hb3:=bAl hb2 (.cells (byts (shaN (sb s))).toArray 49)
 clear hb2 st1 ln1
 generalize w2.alloc (.cells (byts (shaN (sb s))).toArray 49)=w3 at *
 generalize w2.heap.size=bt at *
 have KS:Hid (∀ w':World,Below w3.heap.size w3 w'→True):=Lib.hid (fun _ _=>trivial)
 refine wp_region_schB (f:=2) KS [(0,1),(1,1),(2,3),(3,3),(4,3)] ?_
 simp only [pickS,List.getElem?_cons_zero,List.getElem?_cons_succ]
 iterate 2 refine wpSched_t ?_
 refine wpSched_last ?_
 first | simp only [List.map_nil] | simp only [List.map_cons,List.map_nil]
 clear KS
 replace BT:=Blk.dwM BT
 replace hb3:=bDr hb3
 generalize w3.drew=w4 at *
 go_wp2_with fail
 (with_reducible refine (hj.out _ hb3).mono ?_)
 rintro e w5 ⟨v5,rfl,b5,A5,c5,rfl,hR5,hc5,hc52,hn5⟩
 have hb5:=bCall hb3 b5
 have BT5:=BT.below b5 BT.lt
 obtain ⟨g5,off5,rfl,hg5,hcc⟩:=hR5.2 h0
 clear hb3 b5 BT hj
 obtain ⟨i0,hi,hz0,hz1,hz2⟩:=info_parts byte_info
 have hi':=Lib.hid hi
 have hz0':=Lib.hid hz0
 have hz1':=Lib.hid hz1
 have hz2':=Lib.hid hz2
 obtain ⟨X,hX⟩:∃ X,shaN (sb s)++b=X:=⟨_,rfl⟩
 have hXl:Hid (X.length=32+b.length):=by show _=_;rw [←hX,List.length_append,shaN_len]
 have hXb:Hid (byts X=byts (shaN (sb s))++byts b):=by show _=_;rw [←hX];simp [byts]
 have hold:∀ a,some (⟨bt,0,none⟩:Addr)=some a→∀ j u,(byts (shaN (sb s)))[j]?=some u→w5.cell? (a.add j)=some u:=by
  intro a ha j u hu
  injection ha with ha;subst ha;rw [addr_plus,Nat.zero_add,BT5.cell];simpa using hu
 have hnew:∀ j u,(byts b)[j]?=some u→w5.cell? ((⟨g5,off5,none⟩:Addr).add j)=some u:=fun j u hu=>by rw [addr_plus];exact hcc j u hu
 replace hold:=Lib.hid hold
 replace hnew:=Lib.hid hnew
 replace hX:=Lib.hid hX
 have hf:32<32+b.length:=by omega
 clear hi hz0 hz1 hz2 hcc hR5 BT5
 go_wp2_with (at_builtin;refine wpList_append_grows w5 (by rfl) (.tmp 9) (.tmp 11) 123 (by rfl) 5 i0 (.int .u8 0) 1 1 Tryz.underlying123 hi'.out hz0'.out hz1'.out hz2'.out rfl (by omega) (some ⟨bt,0,none⟩) 32 32 (byts (shaN (sb s))) (by rfl) (fun h=>by cases h) (by rw [byts_length,shaN_len]) hold.out ⟨g5,off5,none⟩ b.length c5 (byts b) (by rfl) (by rw [byts_length,Nat.mul_one]) hnew.out byts_oneCell hf (by unfold maxLen;omega) (by omega) ?_;intro v' w' hown hgr)
 refine NoPanic.normal ?_
 go_wp2_with fail
 go_ret
 rw [←hXb.out,←hXl.out] at hown
 have e:=hX.out
 subst e
 exact ⟨_,rfl,hb5.trans (((Below.refl _ w5).grown hgr (Nat.le_refl _) (by intro k hk;cases hk)).mono hb5.size),Sl.of_own hown⟩
theorem mk_node (x y:List Nat) (hx:dgOk x) (hy:dgOk y) (W:World) (hG:ShaG W) :
  Calls Tryz.prog 155 #[dig x,dig y] W (RetSl 1 (shaN nodS++(x++y)).length (byts (shaN nodS++(x++y))) W):=by
 unfold dig
 have l1:(byts x).toArray.size=32:=by rw [List.size_toArray,byts_length,hx.1]
 have l2:(byts y).toArray.size=32:=by rw [List.size_toArray,byts_length,hy.1]
 go_enter Tryz.func155,Tryz.ntmps155
 go_upto_region 1 with fail
 have B1:=(Blk.new W 49 (byts x).toArray _ rfl).alloc (.cells (byts y).toArray 49)
 have B2:=Blk.new (W.alloc (.cells (byts x).toArray 49)) 49 (byts y).toArray _ rfl
 have hb:=bAl (bAl (bRefl W) (.cells (byts x).toArray 49)) (.cells (byts y).toArray 49)
 have hn1:(W.alloc (.cells (byts x).toArray 49)).heap.size=W.heap.size+1:=by simp
 rw [hn1] at B2
 clear hn1 l1 l2
 generalize (W.alloc (.cells (byts x).toArray 49)).alloc (.cells (byts y).toArray 49)=w2 at *
 have KS:Hid (∀ w':World,Below w2.heap.size w2 w'→True):=Lib.hid (fun _ _=>trivial)
 refine wp_region_schB (f:=2) KS [(0,1),(1,1),(2,3),(3,3),(4,3)] ?_
 simp only [pickS,List.getElem?_cons_zero,List.getElem?_cons_succ]
 iterate 2 refine wpSched_t ?_
 refine wpSched_last ?_
 first | simp only [List.map_nil] | simp only [List.map_cons,List.map_nil]
 clear KS
 replace B1:=Blk.dwM B1
 replace B2:=Blk.dwM B2
 replace hb:=bDr hb
 replace hG:=hG.below hb
 generalize w2.drew=w3 at *
 have hbA:=bAl hb (.cells #[.slice (some ⟨W.heap.size,0,none⟩) 32 32,.slice (some ⟨W.heap.size+1,0,none⟩) 32 32] 123)
 have BS:=Blk.new w3 123 #[.slice (some ⟨W.heap.size,0,none⟩) 32 32,.slice (some ⟨W.heap.size+1,0,none⟩) 32 32] _ rfl
 replace B1:=B1.alloc (.cells #[.slice (some ⟨W.heap.size,0,none⟩) 32 32,.slice (some ⟨W.heap.size+1,0,none⟩) 32 32] 123)
 replace B2:=B2.alloc (.cells #[.slice (some ⟨W.heap.size,0,none⟩) 32 32,.slice (some ⟨W.heap.size+1,0,none⟩) 32 32] 123)
 have q:=mk_text ⟨#[110,111,100,101]⟩ (some ⟨w3.heap.size,0,none⟩) 2 2 (x++y) (w3.alloc (.cells #[.slice (some ⟨W.heap.size,0,none⟩) 32 32,.slice (some ⟨W.heap.size+1,0,none⟩) 32 32] 123))
  (fun w' h=>join_two w3.heap.size 0 2 (some ⟨W.heap.size,0,none⟩) (some ⟨W.heap.size+1,0,none⟩) 32 32 x y w' (by rw [hx.1];exact (BS.below h BS.lt).cell 0) (by rw [hy.1];exact (BS.below h BS.lt).cell 1)
   ⟨by rw [byts_length,Nat.mul_one],fun _=>⟨_,0,rfl,(B1.below h B1.lt).lt,fun j u hu=>by rw [Nat.zero_add,(B1.below h B1.lt).cell];simpa using hu⟩⟩
   ⟨by rw [byts_length,Nat.mul_one],fun _=>⟨_,0,rfl,(B2.below h B2.lt).lt,fun j u hu=>by rw [Nat.zero_add,(B2.below h B2.lt).cell];simpa using hu⟩⟩ hx.2 hy.2 (by rw [hx.1];decide) (by rw [hy.1];decide) (by rw [hx.1,hy.1];decide) (by decide)) (by decide) (by rw [List.length_append,hx.1];omega) (by rw [List.length_append,hx.1,hy.1];decide) (hG.below (bAl (bRefl w3) _))
 have hnod:sb ⟨#[110,111,100,101]⟩=nodS:=by decide
 rw [hnod] at q
 generalize shaN nodS++(x++y)=X at *
 clear BS B1 B2 hnod
 go_wp2_with fail
 (with_reducible refine q.mono ?_)
 rintro e w5 ⟨v5,rfl,b5,h5⟩
 have hb5:=bCall hbA b5
 clear q
 obtain ⟨A5,c5,rfl,hS5⟩:=h5
 go_wp2_with fail
 refine NoPanic.normal ?_
 go_wp2_with fail
 go_ret
 exact ⟨_,rfl,hb5,A5,c5,rfl,hS5⟩
theorem mk_leaf (A:Option Addr) (c:Nat) (b:List Nat) (W:World) (hA:Rd W W.heap.size 1 A b.length (byts b)) (ho:okB b) (h0:0<b.length) (hl:b.length≤100000000000) (hG:ShaG W) :
  Calls Tryz.prog 133 #[.slice A b.length c] W (Ret (dig (leafN b)) W):=by
 go_enter Tryz.func133,Tryz.ntmps133
 go_upto_region 1 with fail
 change Code.wp _ _ _ _ (W.alloc (.cells (byts (zerosN 32)).toArray 49))
 have BD:=Blk.new W 49 (byts (zerosN 32)).toArray _ rfl
 have hb:=bAl (bRefl W) (.cells (byts (zerosN 32)).toArray 49)
 generalize W.alloc (.cells (byts (zerosN 32)).toArray 49)=w1 at *
 have BS:=Blk.new w1 123 #[.slice A b.length c] _ rfl
 have q:=mk_text ⟨#[108,101,97,102]⟩ (some ⟨w1.heap.size,0,none⟩) 1 1 b (w1.alloc (.cells #[.slice A b.length c] 123))
  (fun w' h=>join_one w1.heap.size 0 1 A c b w' ((BS.below h BS.lt).cell 0) (((hA.below hb).more hb.size).below ((bAl (bRefl w1) _).trans (h.mono (by simp))) |>.more (Nat.le_trans (by simp) h.size)) ho h0 (by omega)) (by decide) h0 hl (hG.below (bAl hb _))
 have hlea:sb ⟨#[108,101,97,102]⟩=leaS:=by decide
 rw [hlea] at q
 have hbA:=bAl hb (.cells #[.slice A b.length c] 123)
 replace BD:=BD.alloc (.cells #[.slice A b.length c] 123)
 have hX:Hid (leafN b=shaN (shaN leaS++b)):=Lib.hid rfl
 have hXo:okB (shaN leaS++b):=okB_app (okB_sha _) ho
 generalize shaN leaS++b=X at *
 clear hlea BS hb
 go_wp2_with fail
 (with_reducible refine q.mono ?_)
 rintro e w5 ⟨v5,rfl,b5,A5,c5,rfl,hR5,hc5,hc52,_⟩
 have hb5:=bCall hbA b5
 have BD5:=BD.below b5 BD.lt
 clear q BD hbA b5
 go_wp2_with fail
 with_reducible refine (sum_any A5 _ c5 X w5 hR5 hXo hc5 hc52 (hG.below hb5)).mono ?_
 rintro e w6 ⟨rfl,b6⟩
 have hb6:=bCall hb5 b6
 have BD6:=BD5.below b6 BD5.lt
 clear hb5 b6 BD5 hR5
 dsimp only
 go_step
 refine wpList_store_row rfl 49 (.tmp 2) (.tmp 6) rfl W.heap.size (byts (shaN X)).toArray rfl rfl 49 _ BD6 (by rw [List.size_toArray,byts_length,shaN_len];exact dig_info) (by rw [List.size_toArray,List.size_toArray,byts_length,byts_length,shaN_len];rfl) (byts_one _) ?_
 have hb9:=below_setRow hb6 (Nat.le_refl _) (byts (shaN X)).toArray
 have BD9:Blk (w6.setRow W.heap.size (byts (shaN X)).toArray) W.heap.size 49 (byts (shaN X)).toArray:=setRow_heap w6 W.heap.size _ _ 49 _ BD6
 go_wp2_with fail
 exact bodyPost_ret (v:=dig (shaN X)) (results_cell_row rfl _ _ W.heap.size 49 _ (0,0) _ rfl BD9 dig_under rfl (by rw [List.size_toArray,byts_length,shaN_len];exact dig_info)) rfl ⟨by rw [hX.out],hb9⟩
def zeroD:Value := .agg #[.int .u8 0,.int .u8 0,.int .u8 0,.int .u8 0,.int .u8 0,.int .u8 0,.int .u8 0,.int .u8 0,.int .u8 0,.int .u8 0,.int .u8 0,.int .u8 0,.int .u8 0,.int .u8 0,.int .u8 0,.int .u8 0,.int .u8 0,.int .u8 0,.int .u8 0,.int .u8 0,.int .u8 0,.int .u8 0,.int .u8 0,.int .u8 0,.int .u8 0,.int .u8 0,.int .u8 0,.int .u8 0,.int .u8 0,.int .u8 0,.int .u8 0,.int .u8 0]
theorem dig_info3:(Tryz.prog.info? 49).map (fun i=>(i.zero,i.size,i.bytes))=some (some zeroD,32,32):=by kernel_rfl
theorem load_dig {w:World} {b o:Nat} {d:List Nat} (hd:d.length=32) (hc:∀ j v,(byts d)[j]?=some v→w.cell? ⟨b,o+j,none⟩=some v) :
  (Instr.loadAt 49 (.pointer (some ⟨b,o,none⟩))).run Tryz.prog w = .ok (.agg (byts d).toArray) w :=
 run_loadAt_mid w b o 49 (byts d) _ (fun j v hj=>hc j v hj) dig_under rfl (by rw [byts_length,hd];exact dig_info)
theorem build_dig {d:List Nat} (h:d.length=32):List.foldl (fun (cs:Array Value) (x:Value×Nat)=>cs.setIfInBounds x.snd x.fst) #[.int .u8 0,.int .u8 0,.int .u8 0,.int .u8 0,.int .u8 0,.int .u8 0,.int .u8 0,.int .u8 0,.int .u8 0,.int .u8 0,.int .u8 0,.int .u8 0,.int .u8 0,.int .u8 0,.int .u8 0,.int .u8 0,.int .u8 0,.int .u8 0,.int .u8 0,.int .u8 0,.int .u8 0,.int .u8 0,.int .u8 0,.int .u8 0,.int .u8 0,.int .u8 0,.int .u8 0,.int .u8 0,.int .u8 0,.int .u8 0,.int .u8 0,.int .u8 0] (byts d).zipIdx=(byts d).toArray:=by
 have hl:(byts d).length=32:=by rw [byts_length,h]
 apply Array.ext_getElem?
 intro i
 have e:=foldl_put 0 (byts d) 0 #[.int .u8 0,.int .u8 0,.int .u8 0,.int .u8 0,.int .u8 0,.int .u8 0,.int .u8 0,.int .u8 0,.int .u8 0,.int .u8 0,.int .u8 0,.int .u8 0,.int .u8 0,.int .u8 0,.int .u8 0,.int .u8 0,.int .u8 0,.int .u8 0,.int .u8 0,.int .u8 0,.int .u8 0,.int .u8 0,.int .u8 0,.int .u8 0,.int .u8 0,.int .u8 0,.int .u8 0,.int .u8 0,.int .u8 0,.int .u8 0,.int .u8 0,.int .u8 0] i (by rw [hl];decide)
 simp only [Nat.zero_add] at e
 rw [e,hl]
 by_cases hi:i<32
 ·rw [if_pos ⟨Nat.zero_le _,hi⟩];simp
 ·rw [if_neg (fun h=>hi h.2),Array.getElem?_eq_none (by simp;omega),Array.getElem?_eq_none (by simp [hl];omega)]
def rowLen:Value→Nat
 | .slice _ n _=>n
 | _=>0
theorem mk_up (A:Option Addr) (c:Nat) (l:List (List Nat)) (W:World) (hA:Rd W W.heap.size 32 A l.length (l.flatMap byts)) (hok:∀ d∈l,dgOk d) (hn:l.length≤1000) (hc:l.length≤c) (hc2:c≤9223372036854775807) (hnil:A=none→l.length=0∧c=0) (hG:ShaG W) :
  Calls Tryz.prog 134 #[.slice A l.length c] W (RetO 49 32 (upN l).length ((upN l).flatMap byts) W):=by
 go_enter Tryz.func134,Tryz.ntmps134
 go_wp2_with fail
 go_loopw [0,2] (fun row nx wr=>∃ (D R:List (List Nat)) (A':Option Addr) (c' m k:Nat) (v:Value),row = .slice A' m c'∧nx=v∧Hid (D++upN R=upN l∧(∀ d∈R,dgOk d)∧R.length=m∧D.length=k)∧m≤c'∧c'≤9223372036854775807∧(A'=none→m=0∧c'=0)∧k+m≤1000∧Below W.heap.size W wr∧Rd W W.heap.size 32 A' m (R.flatMap byts)∧wr.ownsRow W.heap.size 49 32 v k (D.flatMap byts)) (fun row _ _=>rowLen row)
 case atStart=>exact ⟨[],l,A,c,l.length,0,_,rfl,rfl,Lib.hid ⟨rfl,hok,rfl,rfl⟩,hc,hc2,hnil,by omega,bRefl _,hA,World.ownsRow_nil _ _ _ _⟩
 case round =>
  clear hA hok hc hc2 hnil hn
  obtain ⟨D,R,A',c',m,k,v,rfl,rfl,hdr,hc,hc2,hnil,hsum,hb,hR,hown⟩:=hrel
  by_cases hlt:1<m
  ·obtain ⟨x,y,R,rfl⟩:∃ x y R',R=x::y::R':=by
    match R,hdr.out.2.2.1 with
    | x::y::R',_=>exact ⟨x,y,R',rfl⟩
    | [x],h=>simp at h;omega
    | [],h=>simp at h;omega
   have hi0:(0:Int)<(m:Int):=by omega
   have hj0:0<m:=by omega
   have hi1:(1:Int)<(m:Int):=by omega
   obtain ⟨b,off,rfl,hbb,hcc⟩:=hR.2 (by omega)
   have hx:dgOk x:=hdr.out.2.1 x (by simp)
   have hy:dgOk y:=hdr.out.2.1 y (by simp)
   have hlx:(byts x).length=32:=by rw [byts_length,hx.1]
   have hly:(byts y).length=32:=by rw [byts_length,hy.1]
   have c1:∀ j u,(byts x)[j]?=some u→W.cell? ⟨b,off+j,none⟩=some u:=fun j u hu=>hcc j u (by
    have hj:j<(byts x).length:=(List.getElem?_eq_some_iff.1 hu).1
    rw [List.flatMap_cons,List.getElem?_append_left hj];exact hu)
   have c2:∀ j u,(byts y)[j]?=some u→W.cell? ⟨b,off+32+j,none⟩=some u:=fun j u hu=>by
    have hj:j<(byts y).length:=(List.getElem?_eq_some_iff.1 hu).1
    have:=hcc (32+j) u (by rw [List.flatMap_cons,List.flatMap_cons,List.getElem?_append_right (by omega),hlx,Nat.add_sub_cancel_left,List.getElem?_append_left hj];exact hu)
    rwa [←Nat.add_assoc] at this
   have KS:Hid (∀ w',Below wr.heap.size wr w'→(Instr.loadAt 49 (.pointer (some ⟨b,off,none⟩))).run Tryz.prog w' = .ok (.agg (byts x).toArray) w'∧(Instr.loadAt 49 (.pointer (some ⟨b,off+32,none⟩))).run Tryz.prog w' = .ok (.agg (byts y).toArray) w') :=
    Lib.hid (fun w' h=>⟨load_dig hx.1 (fun j u hu=>(hb.trans (h.mono hb.size)).cell (p:=⟨b,off+j,none⟩) hbb |>.trans (c1 j u hu)),load_dig hy.1 (fun j u hu=>(hb.trans (h.mono hb.size)).cell (p:=⟨b,off+32+j,none⟩) hbb |>.trans (c2 j u hu))⟩)
   clear c1 c2 hcc hlx hly
   go_upto_region 2 with fail
   refine wp_region_schB (f:=7) KS [(0,1),(1,1),(2,1),(3,2),(4,1),(5,1),(6,2),(7,3),(8,3),(9,3),(10,3),(11,3)] ?_
   simp only [pickS,List.getElem?_cons_zero,List.getElem?_cons_succ]
   iterate 3 refine wpSched_t ?_
   refine wpSched_r (v:=?v1) (hv:=?h1) ?_;case h1=>(intro w hSw;(first | refine (exec_load rfl rfl hSw).trans ?_ | refine (exec_load rfl rfl hSw.1).trans ?_ | refine (exec_load rfl rfl hSw.2.1).trans ?_ | refine (exec_load rfl rfl hSw.2.2.1).trans ?_ | refine (exec_load rfl rfl hSw.2).trans ?_ | refine (exec_load rfl rfl hSw.2.2).trans ?_);with_reducible rfl)
   iterate 2 refine wpSched_t ?_
   refine wpSched_r (v:=?v2) (hv:=?h2) ?_;case h2=>(intro w hSw;(first | refine (exec_load rfl rfl hSw).trans ?_ | refine (exec_load rfl rfl hSw.1).trans ?_ | refine (exec_load rfl rfl hSw.2.1).trans ?_ | refine (exec_load rfl rfl hSw.2.2.1).trans ?_ | refine (exec_load rfl rfl hSw.2).trans ?_ | refine (exec_load rfl rfl hSw.2.2).trans ?_);with_reducible rfl)
   refine wpSched_last ?_
   first | simp only [List.map_nil] | simp only [List.map_cons,List.map_nil]
   have q:=mk_node x y hx hy wr.drew (hG.below (bDr hb))
   unfold dig at q
   clear KS
   generalize hX:shaN nodS++(x++y)=X at *
   have hXo:Hid (nodeN x y=shaN X):=by show _=_;rw [←hX];rfl
   have hok2:okB X:=by rw [←hX];exact okB_app (okB_sha _) (okB_app hx.2 hy.2)
   clear hX hi0 hj0 hi1
   replace hown:=hown.drew
   replace hb:=bDr hb
   generalize wr.drew=w2 at *
   go_wp2_with fail
   (with_reducible refine q.mono ?_)
   rintro e w5 ⟨v5,rfl,b5,A5,c5,rfl,hR5,hc5,hc52,_⟩
   replace hown:=ownsRow_keep hown b5
   replace hb:=bCall hb b5
   clear q b5
   go_wp2_with fail
   with_reducible refine (sum_any A5 _ c5 X w5 hR5 hok2 hc5 hc52 (hG.below hb)).mono ?_
   rintro e w6 ⟨rfl,b6⟩
   replace hown:=ownsRow_keep hown b6
   replace hb:=bCall hb b6
   clear b6 hR5
   have hN:(shaN X).length=32:=shaN_len X
   have hlN:(byts (shaN X)).length=32:=by rw [byts_length,hN]
   have hs6:=hb.size
   have h63:k+1≤maxLen:=by unfold maxLen;omega
   have hby:(k+1)*32≤140737488355328:=by omega
   go_wp2_with (at_builtin;rw [build_dig hN];refine wpList_append1G w6 (byts (shaN X)) (.tmp 6) (.tmp 15) 45 W.heap.size 49 zeroD 32 32 _ k (D.flatMap byts) (by rfl) (by rfl) Tryz.underlying45 dig_info3 rfl (by omega) (by rfl) hown (by rfl) hlN byts_oneCell h63 hby hs6 ?_;intro v' w' hown4 hg4)
   refine NoPanic.normal ?_
   go_wp2_with fail
   obtain ⟨h1,h2,h3,h4⟩:=hdr.out
   have hml:m=R.length+2:=by rw [←h3];simp
   refine ⟨⟨D++[nodeN x y],R,_,c' - 2,m - 2,k+1,v',rfl,rfl,Lib.hid ⟨by rw [←h1,List.append_assoc];rfl,fun d hd=>h2 d (by simp [hd]),by omega,by rw [List.length_append,h4];rfl⟩,by omega,by omega,?_,by omega,hb.trans (hg4.below hown hs6),?_,?_⟩,?_⟩
   ·intro h;split at h <;> cases h
   ·have hl2:(byts x++byts y).length=64:=by rw [List.length_append,byts_length,byts_length,hx.1,hy.1]
    have hdp:((x::y::R).flatMap byts).drop 64=R.flatMap byts:=by
     rw [List.flatMap_cons,List.flatMap_cons,←List.append_assoc,List.drop_append,hl2,List.drop_of_length_le (by rw [hl2];exact Nat.le_refl _)];simp
    split
    ·obtain rfl:m=2:=by omega
     have hR0:R=[]:=List.eq_nil_of_length_eq_zero (by omega)
     subst hR0
     exact ⟨rfl,fun h=>absurd h (by omega)⟩
    ·have:=hR.cut 2 (by omega)
     rw [show 2*32=64 from rfl,hdp] at this
     exact this
   ·rw [List.flatMap_append,←show nodeN x y=shaN X from hXo.out] at *
    simpa using hown4
   ·show m - 2<m;omega
  ·have hRo:Hid (upN R=R):=by
    show _=_
    match R,hdr.out.2.2.1 with
    | [],_=>rfl
    | [x],_=>rfl
    | x::y::R',h=>simp at h;omega
   have hs6:=hb.size
   have h63:k+m≤maxLen:=by unfold maxLen;omega
   have hby:(k+m)*32≤140737488355328:=by omega
   have h1c:∀ u∈R.flatMap byts,u.oneCell'=true:=by
    intro u hu
    obtain ⟨d,_,hd⟩:=List.mem_flatMap.1 hu
    exact byts_oneCell u hd
   have hRw:=hR.below hb
   go_wp2_with (at_builtin;refine wpList_appendG (.tmp 19) (.tmp 20) 45 W.heap.size 49 zeroD 32 32 _ k (D.flatMap byts) A' m c' W.heap.size (R.flatMap byts) (by rfl) (by rfl) Tryz.underlying45 dig_info3 rfl (by omega) (by rfl) hown (by rfl) hRw hnil h1c h63 hby hs6 ?_;intro v' w' hown4 hg4)
   go_ret
   obtain ⟨h1,h2,h3,h4⟩:=hdr.out
   rw [hRo.out] at h1
   refine ⟨_,rfl,hb.trans (hg4.below hown hs6),?_⟩
   rw [←h1,List.length_append,h3,h4,List.flatMap_append]
   exact hown4
attribute [local go_sem] Oper.semAt_some
theorem rows_any (A:Option Addr) (n c:Nat) (w:World) :
  Calls Tryz.prog 99 #[.slice A n c] w fun r w' =>
   r = .returned (.func (.func 132) #[] #[.pointer (some ⟨w.heap.size,0,none⟩)])∧w'=w.alloc (.cells #[.slice A n c] 121):=by
 have hmf:∀ (fn:Fn) (first cap:Array Value) (w:World),(Instr.makeFunc fn first cap).run Tryz.prog w = .ok (.func fn first cap) w:=fun _ _ _ _=>rfl
 go_enter Tryz.func99,Tryz.ntmps99
 go_wp2
 go_ret
 exact ⟨rfl,rfl⟩
theorem own_keepsC {K:Nat→Prop} {X Y:World} {base:Nat} {e:TypeId} {sz n:Nat} {v:Value} {xs:List Value} (hk:KeepsC K X Y) (hK:∀ k,base≤k→K k) (h:X.ownsRow base e sz v n xs):Y.ownsRow base e sz v n xs:=by
 obtain ⟨h1,h2⟩:=h
 refine ⟨h1,?_⟩
 rcases h2 with h2 | ⟨g,cap,cur,r0,r1,hg,r2⟩
 ·exact .inl h2
 ·exact .inr ⟨g,cap,cur,r0,r1,(hk.2 g _ _ _ (hK g r1) hg).trans hg,r2⟩
theorem ShaG.keepsC {K:Nat→Prop} {X Y:World} (h:ShaG X) (hk:KeepsC K X Y) (h1:K 1) (h2:K 0):ShaG Y :=
 ⟨fun i x hx=>hk.cell (p:=⟨1,i,none⟩) h1 (h.1 i x hx),fun i x hx=>hk.cell (p:=⟨0,i,none⟩) h2 (h.2.1 i x hx),Nat.lt_of_lt_of_le h.2.2.1 hk.1,Nat.lt_of_lt_of_le h.2.2.2 hk.1⟩
theorem Sl.keepsC {K:Nat→Prop} {X Y:World} {B sz n:Nat} {v:Value} {xs:List Value} (h:Sl X B sz v n xs) (hk:KeepsC K X Y) (hK:∀ k,k<B→K k):Sl Y B sz v n xs:=by
 obtain ⟨A,c,e,hr,h1,h2,h3⟩:=h
 exact ⟨A,c,e,hk.rd hK hr,h1,h2,h3⟩
theorem rowN_ok {l:List (List Nat)} (h:∀ d∈l,dgOk d):∀ k,∀ d∈rowN l k,dgOk d
 | 0=>h
 | k+1=>upN_ok (rowN_ok h k)
theorem leafs_ok (ts:List (List Nat)):∀ d∈ts.map leafN,dgOk d:=fun d hd=>by obtain ⟨x,_,rfl⟩:=List.mem_map.1 hd;exact leafN_ok x
def RowsAt (l:List (List Nat)) (k f:Nat):Prop:=k+f=l.length∧topN l.length l=topN f (rowN l k)∧(rowN l k).length≤f+1∧0<(rowN l k).length
theorem RowsAt.next {l:List (List Nat)} {k f:Nat} (h:RowsAt l k f) (h1:1<(rowN l k).length):RowsAt l (k+1) (f - 1):=by
 obtain ⟨e,ht,hl,hp⟩:=h
 obtain ⟨f,rfl⟩:∃ g,f=g+1:=⟨f - 1,by omega⟩
 refine ⟨by omega,?_,?_,?_⟩
 ·rw [ht]
  show (if (rowN l k).length≤1 then _ else topN f (upN (rowN l k)))=_
  rw [if_neg (by omega)];rfl
 ·show (upN (rowN l k)).length≤_
  rw [upN_length];omega
 ·show 0<(upN (rowN l k)).length
  rw [upN_length];omega
theorem RowsAt.end_ {l:List (List Nat)} {k f:Nat} (h:RowsAt l k f) (h1:¬1<(rowN l k).length):topN l.length l=(rowN l k).headD []:=by
 obtain ⟨e,ht,hl,hp⟩:=h
 rw [ht]
 cases f with
 | zero=>rfl
 | succ f =>
  show (if (rowN l k).length≤1 then (rowN l k).headD [] else _)=_
  rw [if_pos (by omega)]
theorem rows_stops (bp bd:Nat) (A:Option Addr) (c:Nat) (ts:List (List Nat)) (vs:List Value) (w:World) (hbd:bd<w.heap.size) (hB:Blk w bp 121 #[.slice A ts.length c])
  (hA:Rd w bd 1 A ts.length vs) (hT:∀ (k:Nat) (u:Value) (t:List Nat),vs[k]?=some u→ts[k]?=some t→Sl w bd 1 u t.length (byts t)) (hok:∀ t∈ts,okB t∧0<t.length∧t.length≤100000000000) (h00:0<ts.length) (hn:ts.length≤1000) (hG:ShaG w) (hg1:1<bd∧0<bd) :
  SeqG (2+1) Tryz.prog 132 #[.pointer (some ⟨bp,0,none⟩)] (fun v:Value=>#[v]) (KeepsC (fun k=>k≠bd)) (fun ys=>∃ k,ys.length=k+1∧topN ts.length (ts.map leafN)=(rowN (ts.map leafN) k).headD []) (fun _=>True) (ts.length+1) w
   (fun pre v W=>Sl W W.heap.size 32 v (rowN (ts.map leafN) pre.length).length ((rowN (ts.map leafN) pre.length).flatMap byts)∧0<(rowN (ts.map leafN) pre.length).length):=by
 intro L J Jx W hW hJ _ hY h0
 replace hB:=hB.below hW hB.lt
 replace hA:=hA.below (hW.mono (Nat.le_of_lt hbd))
 replace hT:∀ (k:Nat) (u:Value) (t:List Nat),vs[k]?=some u→ts[k]?=some t→Sl W bd 1 u t.length (byts t):=fun k u t hu ht=>(hT k u t hu ht).below (hW.mono (Nat.le_of_lt hbd))
 replace hG:=hG.below hW
 replace hbd:bd<W.heap.size:=Nat.lt_of_lt_of_le hbd hW.size
 clear hW
 refine callsIn_of_wp Tryz.func132 rfl trivial ?_ rfl
 simp only [Tryz.ntmps132,List.size_toArray,List.length_cons,List.length_nil,Nat.reduceAdd,Nat.reduceSub,Array.replicate_succ,Array.replicate_zero,List.push_toArray,List.append_toArray,List.nil_append,List.cons_append]
 have c1:W.cell? ⟨bp,0,none⟩=some (.slice A ts.length c):=hB.cell 0
 replace hT:=Lib.hid hT
 replace hok:=Lib.hid hok
 replace hY:=Lib.hid hY
 gi_wp2
 gi_loopw [8,3] (fun i row wr=>∃ (k:Nat) (v:Value),i = .int .i64 k∧row=v∧k≤ts.length∧Below W.heap.size W wr∧wr.ownsRow W.heap.size 49 32 v k (((ts.take k).map leafN).flatMap byts)) (fun i _ _=>ts.length - (intOf i).toNat)
 case atStart=>exact ⟨0,_,rfl,rfl,Nat.zero_le _,bRefl _,World.ownsRow_nil _ _ _ _⟩
 case round =>
  clear c1
  obtain ⟨k,v,rfl,rfl,hk,hb,hown⟩:=hrel
  by_cases hlt:k<ts.length
  ·obtain ⟨t,ht⟩:∃ x,Hid (ts[k]?=some x):=⟨_,Lib.hid (List.getElem?_eq_getElem hlt)⟩
   obtain ⟨b,off,rfl,hbb,hc⟩:=(hA.below (hb.mono (Nat.le_of_lt hbd))).2 (by omega)
   have hvl:vs.length=ts.length:=by have:=hA.1;omega
   obtain ⟨u,hu⟩:∃ x,Hid (vs[k]?=some x):=⟨_,Lib.hid (List.getElem?_eq_getElem (by omega))⟩
   have d0:=hc k u hu.out
   clear hc
   obtain ⟨At,ct,rfl,hRt,_⟩:=(hT.out k u t hu.out ht.out).below (hb.mono (Nat.le_of_lt hbd))
   obtain ⟨ho1,ho2,ho3⟩:=hok.out t (List.mem_of_getElem? ht.out)
   have q:=mk_leaf At ct t wr (hRt.more (by have:=hb.size;omega)) ho1 ho2 ho3 (hG.below hb)
   unfold dig at q
   have hsn:Hid (((ts.take (k+1)).map leafN).flatMap byts=((ts.take k).map leafN).flatMap byts++byts (leafN t)):=by
    obtain ⟨hk,rfl⟩:=List.getElem?_eq_some_iff.1 ht.out
    show _=_
    rw [List.take_succ_eq_append_getElem hk,List.map_append,List.flatMap_append];simp
   have hN:(leafN t).length=32:=leafN_len t
   have hlN:(byts (leafN t)).length=32:=by rw [byts_length,hN]
   have h63:k+1≤maxLen:=by unfold maxLen;omega
   have hby:(k+1)*32≤140737488355328:=by omega
   generalize leafN t=D at *
   generalize ((ts.take k).map leafN).flatMap byts=X at *
   refine wpIn_wide.2 ?_
   go_wp2_with fail
   (with_reducible refine q.mono ?_)
   rintro e w5 ⟨rfl,b5⟩
   replace hown:=ownsRow_keep hown b5
   replace hb:=bCall hb b5
   have hs5:=hb.size
   clear q b5 d0
   go_wp2_with (at_builtin;rw [build_dig hN];refine wpList_append1G w5 (byts D) (.tmp 12) (.tmp 15) 45 W.heap.size 49 zeroD 32 32 _ k X (by rfl) (by rfl) Tryz.underlying45 dig_info3 rfl (by omega) (by rfl) hown (by rfl) hlN byts_oneCell h63 hby hs5 ?_;intro v' w' hown4 hg4)
   exact ⟨⟨k+1,v',by go_num,rfl,by omega,hb.trans (hg4.below hown hs5),by rw [hsn.out];exact hown4⟩,by simp [intOf];omega⟩
  ·have hkn:k=ts.length:=by omega
   subst hkn
   rw [List.take_length] at hown
   have hJ1:=hJ _ _ _ none h0 (grownBy_below hb none) (by intro r e;cases e)
   have hG1:=hG.below hb
   have hs1:=hb.size
   have hl0:Hid (ts.length=(ts.map leafN).length):=Lib.hid (by simp)
   have hle:=leafs_ok ts
   have hrt:Hid (RowsAt (ts.map leafN) 0 ts.length):=Lib.hid ⟨by rw [←hl0.out];omega,by rw [←hl0.out];rfl,by show (ts.map leafN).length≤_;rw [←hl0.out];omega,by show 0<(ts.map leafN).length;rw [←hl0.out];exact h00⟩
   clear hT hok hB hA h0
   generalize hle0:ts.map leafN=l0 at *
   replace hle0:=Lib.hid hle0
   gi_wp2
   gi_loopw [3] (fun row wr=>∃ (pre:List Value) (k f n:Nat) (v:Value),row=v∧Hid (pre.length=k∧RowsAt l0 k f∧(rowN l0 k).length=n)∧n≤1000∧wr.ownsRow W.heap.size 49 32 v n ((rowN l0 k).flatMap byts)∧ShaG wr∧W.heap.size≤wr.heap.size∧J pre wr) (fun row _=>rowLen row)
   case atStart=>exact ⟨[],0,ts.length,ts.length,_,rfl,Lib.hid ⟨rfl,hrt.out,hl0.out.symm⟩,hn,hown,hG1,hs1,hJ1⟩
   case round =>
    clear hown hG1 hs1 hJ1 hb hG
    obtain ⟨pre,k,f,n,v,rfl,hh,hn1,hown,hG,hsz,hJ1⟩:=hrel
    obtain ⟨A2,c2,rfl,hR2,hc,hc2,hnil⟩:=Sl.of_own hown
    have hY1:=hY.out pre (.slice A2 n c2) wr hJ1 (by
     obtain ⟨e1,e2,e3⟩:=hh.out
     rw [e1,e3]
     exact ⟨⟨A2,c2,rfl,hR2,hc,hc2,hnil⟩,by have:=e2.2.2.2;omega⟩) (by obtain ⟨e1,e2,e3⟩:=hh.out;have:=e2.1;have:=hl0.out;omega)
    obtain ⟨fn,tmps,assign,body,hy,hR⟩:=hY1
    replace hy:=hy
    by_cases h1:1<n
    ·gi_wp2
     refine hR.mono ?_
     rintro e W3 (⟨rfl,hJ3,hk3⟩ | ⟨rfl,hJx3⟩)
     ·have hown3:=own_keepsC hk3 (fun k hk=>by omega) hown
      have hG3:=hG.keepsC hk3 (Nat.ne_of_lt hg1.1) (Nat.ne_of_lt hg1.2)
      have hs3:=Nat.le_trans hsz hk3.1
      obtain ⟨A3,c3,he,hR3,hc3,hc33,hnil3⟩:=Sl.of_own hown3
      injection he with he1 he2 he3
      subst he1;subst he3
      have q:=mk_up A2 c2 (rowN l0 k) W3 (by rw [hh.out.2.2];exact hR3) (rowN_ok hle k) (by rw [hh.out.2.2];exact hn1) (by rw [hh.out.2.2];exact hc) hc2 (by rw [hh.out.2.2];exact hnil) hG3
      rw [hh.out.2.2] at q
      clear hy hown hown3 hR2 hR3
      have hun:Hid ((upN (rowN l0 k)).length=(n+1) / 2):=Lib.hid (by rw [upN_length,hh.out.2.2])
      gi_wp2
      refine ⟨trivial,?_⟩
      (with_reducible refine (callsIn_wide.2 q).mono ?_)
      rintro e w5 ⟨v5,rfl,b5,hown5⟩
      have hJ5:=hJ _ _ _ none hJ3 (grownBy_below b5 none) (by intro r e;cases e)
      have hG5:=hG3.below b5
      have hs5:=Nat.le_trans hs3 b5.size
      have hown6:=own_base hown5 hs3
      clear q
      gi_wp2
      obtain ⟨e1,e2,e3⟩:=hh.out
      refine ⟨⟨pre++[.slice A2 n c2],k+1,f - 1,(n+1) / 2,v5,rfl,Lib.hid ⟨by rw [List.length_append,e1];rfl,e2.next (by rw [e3];exact h1),hun.out⟩,by omega,by rw [hun.out] at hown6;exact hown6,hG5,hs5,hJ5⟩,?_⟩
      obtain ⟨A6,c6,rfl,_⟩:=Sl.of_own hown6
      show (upN (rowN l0 k)).length<n
      rw [hun.out];omega
     ·gi_wp2
      go_end0
      exact ⟨⟨_,rfl⟩,.inr ⟨_,trivial,hJx3⟩⟩
    ·gi_wp2
     refine hR.mono ?_
     rintro e W3 (⟨rfl,hJ3,hk3⟩ | ⟨rfl,hJx3⟩)
     ·gi_wp2
      go_end0
      obtain ⟨e1,e2,e3⟩:=hh.out
      exact ⟨⟨_,rfl⟩,.inl ⟨_,⟨k,by rw [List.length_append,e1];rfl,by rw [hle0.out,hl0.out];exact e2.end_ (by rw [e3];exact h1)⟩,hJ3⟩⟩
     ·gi_wp2
      go_end0
      exact ⟨⟨_,rfl⟩,.inr ⟨_,trivial,hJx3⟩⟩
end Go.Proofs.YtoeobcmmafncmaaGreatDoor

/- slices.Insert of one digest; walked. -/
import Derived.Test.YthbibbkbaphpkaaGreatDoorMan
import Derived.Test.YthbibbkbaphpkaaGreatDoorMap
import Derived.Test.YthbibbkbaphpkaaGreatDoorMau
import Derived.Lib.Overlaps
import Derived.Laws.Externs
set_option maxHeartbeats 16000000
set_option maxRecDepth 1000000
namespace Go.Proofs.YthbibbkbaphpkaaGreatDoor
open _root_.Go.Proofs.Tryz
section
open Go Go.RowKit
def Ac (base:Nat) (v:Value) (n:Nat) (xs:List Value) (w:World) (r:Ending) (w':World):Prop:=∃ v',r = .returned v'∧w'.ownsRow base 29 32 v' n xs∧Grew w w' v v'
theorem xw {P:Program} (w:World) {ops:Array Oper} {rest:List Oper} {o:Oper} {a:Act} {Q:Exit→Act→World→Prop} (hgd:o.guard=none) (d s:Operand) (t t':TypeId)
  (ho:o.op = .call { callee := .builtin .copy,args:=#[d,s],argTypes:=#[t,t'] }) {v u:Value} (hd:a.eval d=v) (hs:a.eval s=u) {v':Value} {w':World}
  (hr:(Builtin.copy_ #[t,t'] o.type #[v,u]).run P w = .ok v' w') (h:wpList P ops Q rest (a.put o.dst v') w'):wpList P ops Q (o::rest) a w:=by
 refine wpList_plain hgd fun K hK=>?_;unfold Oper.wp execOp;simp only [ho,resolve,invoke,builtin,Sem.run_bind,Sem.run_pure,Result.andThen_ok,List.map_toArray,aat,aak,hd,hs,hr];exact hK _ _ h
theorem CO {P:Program} {ops:Array Oper} {o:Oper} {a:Act} {w:World} {K:Act→World→Prop} {Q:Exit→Act→World→Prop} {E:Prop}
  (hg:o.guard=none) (d x:Operand) (dT sT:TypeId) (hop:o.op=Op.call { callee:=Callee.builtin Builtin.copy,args:=#[d,x],argTypes:=#[dT,sT] })
  (v u:Value) (hd:a.eval d=v) (hx:a.eval x=u) {v':Value} {w':World} (hr:(Builtin.copy_ #[dT,sT] o.type #[v,u]).run P w = .ok v' w') (hK:K (a.put o.dst v') w') :
  if Region.wanted o (yielded ops a.tmps)=true then Oper.wp P o a w K Q else E:=by
 have hw:Region.wanted o (yielded ops a.tmps)=true:=by simp [Region.wanted,hg]
 rw [if_pos hw];unfold Oper.wp;simp [execOp,hop,resolve,invoke,builtin,hd,hx,hr,Result.andThen];exact hK
theorem CP {d:List Nat} : ∀ u∈ag d,u.oneCell'=true:=fun u hu=>aZ u hu
theorem Ws {w:World} {vb:Nat} {t:TypeId} {d:List Nat} (hV:Blk w vb t (ag d).toArray) (hd:d.length=32):Rd w w.heap.size 32 (some ⟨vb,0,none⟩) 1 (ag d) :=
 ⟨by rw [ai,hd],fun _=>⟨vb,0,rfl,hV.lt,fun j u hu=>by rw [aax,hV.cell];simpa using hu⟩⟩
theorem U8 (base:Nat) (v:Value) (n vb:Nat) (xs:List Value) (d:List Nat) (w:World) (hown:w.ownsRow base 29 32 v n xs) (hV:Blk w vb 29 (ag d).toArray) (hd:d.length=32) (hn:n≤1000000) (hbase:base≤w.heap.size) :
  Calls prog 61 #[v,.int .i64 n,.slice (some ⟨vb,0,none⟩) 1 1] w (Ac base v (n+1) (xs++ag d) w):=by
 have hvR:=Ws hV hd;have hone:=CP (d:=d);have h63:n+1≤maxLen:=by unfold maxLen;omega
 have hby:(n+1)*32≤140737488355328:=by omega
 have hcase:=hown.2;go_enter func61,ntmps61;rcases hcase with ⟨rfl,rfl⟩ | ⟨g,cap,cur,rfl,hgb,hg,hnc,hcm,hcs,htk⟩
 ·go_wp2_with (at_builtin;refine bT (.tmp 23) (.tmp 24) 23 base 29 sF 32 32 _ 0 xs (some ⟨vb,0,none⟩) 1 1 _ (ag d) (by rfl) (by rfl) underlying23 dN rfl (by omega) (by rfl) hown (by rfl) hvR (by intro h;cases h) hone h63 hby hbase ?_;intro v' w' hown4 hg4)
  go_ret;exact ⟨_,rfl,hown4,hg4⟩
 ·by_cases hcn : cap = n
  ·go_wp2_with (at_builtin;refine bT (.tmp 23) (.tmp 24) 23 base 29 sF 32 32 _ n xs (some ⟨vb,0,none⟩) 1 1 _ (ag d) (by rfl) (by rfl) underlying23 dN rfl (by omega) (by rfl) hown (by rfl) hvR (by intro h;cases h) hone h63 hby hbase ?_;intro v' w' hown4 hg4)
   go_ret;exact ⟨_,rfl,hown4,hg4⟩
  ·go_wp2_with (at_builtin;refine bT (.tmp 23) (.tmp 24) 23 base 29 sF 32 32 _ n xs (some ⟨vb,0,none⟩) 1 1 _ (ag d) (by rfl) (by rfl) underlying23 dN rfl (by omega) (by rfl) hown (by rfl) hvR (by intro h;cases h) hone h63 hby hbase ?_;intro v' w' hown4 hg4)
   go_ret;exact ⟨_,rfl,hown4,hg4⟩
theorem Ew (w:World) (g:Nat) (cs:Array Value):w.grownBy (w.setRow g cs) (some g):=⟨rfl,rfl,rfl,by simp,fun k _ hk=>setRow_other w g k cs (fun e=>hk (by rw [e]))⟩
theorem grownBy_drew (w:World) (r:Option Nat):w.grownBy w.drew r:=⟨rfl,rfl,rfl,aad _,fun _ _ _=>rfl⟩
theorem PP (base g n c i vb:Nat) (xs:List Value) (d:List Nat) (w:World) (hown:w.ownsRow base 29 32 (.slice (some ⟨g,0,none⟩) n c) n xs) (hV:Blk w vb 29 (ag d).toArray) (hne:vb≠g) (hd:d.length=32) (hn:n≤1000000) (hi:i<n) (hroom:n+1≤c) (h1:∀ v∈xs,v.oneCell'=true) :
  Calls prog 61 #[.slice (some ⟨g,0,none⟩) n c,.int .i64 i,.slice (some ⟨vb,0,none⟩) 1 1] w (Ac base (.slice (some ⟨g,0,none⟩) n c) (n+1) (xs.take (i*32)++ag d++xs.drop (i*32)) w):=by
 obtain ⟨hxl,hgb,cur,hB,hnc,hcm,hcs,htk⟩:=OwnAt.parts hown;have hcm2:c≤9223372036854775807:=hcm;have hdl:(ag d).length=32:=by rw [ai,hd]
 have hdr:(xs.drop (i*32)).length=(n - i)*32:=by rw [aa1,hxl,Nat.mul_sub_right_distrib]
 have hcl:cur.toList.length=c*32:=by simpa using hcs
 have hov:∀ lb cb,(callFunc 144 #[.slice (some ⟨vb,0,none⟩) 1 1,.slice (some ⟨g,(i+1)*32,none⟩) lb cb]).run prog w = .ok (.value (.bool false)) w:=fun lb cb=>by
  rw [run_callFunc_extern func144 (by kernel_rfl) (by kernel_rfl) (by kernel_rfl) (e:=Extern.SlicesOverlaps.overlaps #[23,23] #[4]) (by kernel_rfl),
   Lib.run_overlaps_apart w 23 4 29 underlying23 32 (by intro w;kernel_rfl) ⟨vb,0,none⟩ ⟨g,(i+1)*32,none⟩ 1 1 lb cb hne 29 29 (ag d).toArray.size cur.size
    (by unfold World.shape?;unfold Blk at hV;rw [hV]) (by unfold World.shape?;unfold Blk at hB;rw [hB]) (by omega) (hV.frozen 0) (hV.frozen _)]
  rfl
 have hw1:IntKind.i64.wrap ((i:Int)+1)=(i:Int)+1:=by rw [IntKind.wrap_i64];omega
 have hw2:IntKind.i64.wrap ((n:Int)+1)=(n:Int)+1:=by rw [IntKind.wrap_i64];omega
 have hz2:¬((i:Int)=(n:Int)):=by omega
 have hz3:¬((c:Int)<(n:Int)+1):=by omega
 have hb1:(0:Int)≤(i:Int)+1:=by omega
 have hin:i≤n:=by omega
 have htn:((i:Int)+1).toNat=i+1:=by omega
 have htn2:((n:Int)+1).toNat=n+1:=by omega
 have hb2:¬(c=i+1):=by omega
 have hb3:(i:Int)≤(n:Int)+1:=by omega
 have hb4:¬(c=i):=by omega
 have hmin1:Nat.min (n+1 - i) (n - i)=n - i:=by simp only [Nat.min_def];split <;> omega
 obtain ⟨X1,hX1⟩:∃ X1,X1=ou cur.toList xs (i*32) 32:=⟨_,rfl⟩
 have hX1l:X1.length=c*32:=by rw [hX1,uH hxl (by omega) (by omega),hcl]
 have hcp1:∀ ty dc sc,(Builtin.copy_ #[23,23] ty #[.slice (some ⟨g,(i+1)*32,none⟩) (n - i) dc,.slice (some ⟨g,i*32,none⟩) (n+1 - i) sc]).run prog w.drew = .ok (goInt ((n - i:Nat):Int)) (w.drew.setRow g X1.toArray):=fun ty dc sc=>by
  have h:=uj (P:=prog) w.drew 23 23 ty 29 32 g ((i+1)*32) (n - i) dc g (i*32) (n+1 - i) sc cur 29 (xs.drop (i*32)) underlying23 aW hB (by rw [hdr,hmin1])
   (fun j v hj=>by rw [List.getElem?_drop] at hj;exact jH hown hj) (by rw [hdr,hcs];omega) (fun v hv=>h1 v (List.mem_of_mem_drop hv))
  rw [hmin1] at h;rw [h,hX1];have e:(i+1)*32=i*32+32:=by omega
  rw [e];rfl
 have hBd:Blk w.drew g 29 cur:=hB;have B1:Blk (w.drew.setRow g X1.toArray) g 29 X1.toArray:=hBd.row _;obtain ⟨X2,hX2⟩:∃ X2,X2=xq X1 (ag d) (i*32):=⟨_,rfl⟩
 have hX2l:X2.length=c*32:=by rw [hX2,xu (by rw [hdl];omega)];exact hX1l
 have hmin2:Nat.min 1 (n+1 - i)=1:=by simp only [Nat.min_def];split <;> omega
 have hcp2:∀ ty dc,(Builtin.copy_ #[23,23] ty #[.slice (some ⟨g,i*32,none⟩) (n+1 - i) dc,.slice (some ⟨vb,0,none⟩) 1 1]).run prog (w.drew.setRow g X1.toArray) = .ok (goInt 1) ((w.drew.setRow g X1.toArray).setRow g X2.toArray):=fun ty dc=>by
  have h:=uj (P:=prog) (w.drew.setRow g X1.toArray) 23 23 ty 29 32 g (i*32) (n+1 - i) dc vb 0 1 1 X1.toArray 29 (ag d) underlying23 aW B1 (by rw [hdl,hmin2])
   (fun j v hj=>by
    have h2:Blk (w.drew.setRow g X1.toArray) vb 29 (ag d).toArray:=Blk.farRow (w:=w.drew) hV hne _;rw [aax,h2.cell];simpa using hj) (by rw [hdl,aae,hX1l];omega) CP
  rw [hmin2] at h;rw [h,hX2];rfl
 have B2:Blk ((w.drew.setRow g X1.toArray).setRow g X2.toArray) g 29 X2.toArray:=B1.row _
 have hown2:((w.drew.setRow g X1.toArray).setRow g X2.toArray).ownsRow base 29 32 (.slice (some ⟨g,0,none⟩) (n+1) c) (n+1) (xs.take (i*32)++ag d++xs.drop (i*32)):=by
  refine ⟨?_,.inr ⟨g,c,X2.toArray,rfl,hgb,B2,hroom,hcm,by rw [aae];exact hX2l,?_⟩⟩
  ·simp only [aan,aav,aa1,hxl,hdl];omega
  ·show X2.take _=_
   have e:(n+1)*32=n*32+32:=(by omega);rw [e,hX2,hX1];exact PO htk (by omega) (by omega) hdl
 have hgr:Grew w ((w.drew.setRow g X1.toArray).setRow g X2.toArray) (.slice (some ⟨g,0,none⟩) n c) (.slice (some ⟨g,0,none⟩) (n+1) c) :=
  ⟨((grownBy_drew w _).trans (Ew w.drew g _)).trans (Ew _ g _),.inl rfl⟩
 have HO:=aab hown2;have HG:=aab hgr;clear hown2 hgr hown htk hX1 hX2 hX1l hX2l hB hV B1 B2 hBd hcs hcl hxl hdl hdr hmin1 hmin2;go_enter func61,ntmps61;go_wp2_with (simp only [hov])
 have mixed:prog.follows .mixedOrders=true:=by kernel_rfl
 go_region_law_o (refine CO rfl _ _ 23 23 rfl _ _ (by simp [Act.eval,Act.put]) (by simp [Act.eval,Act.put]) (hcp1 _ _ _) ?_)
 go_wp2_with (at_builtin;refine xw _ rfl _ _ 23 23 rfl rfl rfl (hcp2 _ _) ?_)
 go_ret;exact ⟨_,rfl,HO.out,HG.out⟩
theorem SN (base g n c i vb:Nat) (xs:List Value) (d:List Nat) (w:World) (hown:w.ownsRow base 29 32 (.slice (some ⟨g,0,none⟩) n c) n xs) (hV:Blk w vb 29 (ag d).toArray) (hd:d.length=32) (hn:n≤1000000) (hi:i<n) (hroom:c<n+1) (h1:∀ v∈xs,v.oneCell'=true) (hbase:base≤w.heap.size) :
  Calls prog 61 #[.slice (some ⟨g,0,none⟩) n c,.int .i64 i,.slice (some ⟨vb,0,none⟩) 1 1] w (Ac base (.slice (some ⟨g,0,none⟩) n c) (n+1) (xs.take (i*32)++ag d++xs.drop (i*32)) w):=by
 obtain ⟨hxl,hgb,cur,hB,hnc,hcm,hcs,htk⟩:=OwnAt.parts hown;obtain rfl:c=n:=by omega
 have hgw:=hB.lt;have hvw:=hV.lt;have hdl:(ag d).length=32:=by rw [ai,hd]
 have hdr:(xs.drop (i*32)).length=(c - i)*32:=by rw [aa1,hxl,Nat.mul_sub_right_distrib]
 obtain ⟨i0,hi0,hz0,hzs,hzb⟩:=info_parts dN
 have hold:(Builtin.firstCells i0.size i (.slice (some ⟨g,0,none⟩) i c)).run prog w.drew = .ok (xs.take (i*32)).toArray w.drew:=by
  rw [hzs]
  exact run_firstCells_some w.drew 32 i ⟨g,0,none⟩ i c (xs.take (i*32)) (by rw [aav,hxl];omega) (fun j v hj=>by
   rw [Addr.add_lit,aax];rw [aa6] at hj
   split at hj
   ·exact jH (w:=w) hown hj
   ·cases hj)
 have hik:i+(c+1 - i)=c+1:=by omega
 have hkk:(c:Int)+1 - (i:Int)=((c+1 - i:Nat):Int):=by omega
 obtain ⟨Z,hZd⟩:∃ Z,Z=sF.cells:=⟨_,rfl⟩
 have hZ:Z.size=32:=by rw [hZd];rfl
 have hrz:∀ ty,(Builtin.append_ #[23,3] ty #[.slice (some ⟨g,0,none⟩) i c,.int .i64 ((c:Int)+1 - (i:Int))]).run prog w =
   .ok (.slice (some ⟨w.heap.size,0,none⟩) (c+1) (grownCap w (c+1) c 29)) (w.drew.alloc (.cells ((xs.take (i*32)).toArray++Builtin.zeroCells Z (c+1 - i)++Builtin.zeroCells Z (grownCap w (c+1) c 29 - (c+1))) 29)):=fun ty=>by
  have h:=Lib.run_append_grow_zeros w 23 3 ty 29 i0 _ .i64 .i64 underlying23 underlying3 hi0 hz0 (some ⟨g,0,none⟩) i c (xs.take (i*32)) hold (c+1 - i) (by omega) (by omega) (by omega) (by omega) (by rw [hzb];omega) (by rw [hzb,hik];exact growslice_fits (by omega) (by omega));rw [hik,←hZd] at h;rw [hkk];exact h
 obtain ⟨G,hG⟩:∃ G,G=grownCap w (c+1) c 29:=⟨_,rfl⟩
 obtain ⟨ROW,hROW⟩:∃ ROW:Array Value,ROW=(xs.take (i*32)).toArray++Builtin.zeroCells Z (c+1 - i)++Builtin.zeroCells Z (G - (c+1)):=⟨_,rfl⟩
 have hGn:c+1≤G:=by rw [hG];exact grownCap_ge w _ _ _
 have hGm:G≤maxLen:=by rw [hG];exact grownCap_le_maxLen w (c+1) c 29 (by unfold maxLen;omega)
 have hG63:G≤9223372036854775807:=hGm;have hzc:∀ k,(Builtin.zeroCells Z k).size=k*32:=fun k=>by simp [Builtin.zeroCells,hZ]
 have hRz:ROW.size=G*32:=by
  rw [hROW,Array.size_append,Array.size_append,hzc,hzc,aae,aav,hxl];omega
 have hRt:ROW.toList.take (i*32)=xs.take (i*32):=by
  rw [hROW,Array.toList_append,Array.toList_append,aaZ,abm (by rw [aav,hxl];omega),aaH (by rw [aav];omega)]
 have hRl:ROW.toList.length=G*32:=by simpa using hRz
 rw [←hG,←hROW] at hrz;obtain ⟨W1,hW1⟩:∃ W1,W1=w.drew.alloc (.cells ROW 29):=⟨_,rfl⟩
 rw [←hW1] at hrz;have B1:Blk W1 w.heap.size 29 ROW:=by rw [hW1];exact Blk.new w.drew _ _ _ rfl
 have hb1:Below w.heap.size w W1:=by rw [hW1];exact bAl (bDr (aj w)) _
 have hmA:Nat.min 1 (c+1 - i)=1:=by simp only [Nat.min_def];split <;> omega
 have hmB:Nat.min (c - i) (c - i)=c - i:=Nat.min_self _;obtain ⟨X1,hX1⟩:∃ X1,X1=xq ROW.toList (ag d) (i*32):=⟨_,rfl⟩
 have hX1l:X1.length=G*32:=by rw [hX1,xu (by rw [hdl];omega)];exact hRl
 have hcpA:∀ ty dc,(Builtin.copy_ #[23,23] ty #[.slice (some ⟨w.heap.size,i*32,none⟩) (c+1 - i) dc,.slice (some ⟨vb,0,none⟩) 1 1]).run prog W1 = .ok (goInt 1) (W1.setRow w.heap.size X1.toArray):=fun ty dc=>by
  have h:=uj (P:=prog) W1 23 23 ty 29 32 w.heap.size (i*32) (c+1 - i) dc vb 0 1 1 ROW 29 (ag d) underlying23 aW B1 (by rw [hdl,hmA])
   (fun j v hj=>by
    rw [aax,(hV.below hb1 hvw).cell];simpa using hj) (by rw [hdl,hRz];omega) CP
  rw [hmA] at h;rw [h,hX1];rfl
 obtain ⟨W2,hW2⟩:∃ W2,W2=W1.setRow w.heap.size X1.toArray:=⟨_,rfl⟩
 rw [←hW2] at hcpA;have B2:Blk W2 w.heap.size 29 X1.toArray:=by rw [hW2];exact B1.row _
 have hb2:Below w.heap.size w W2:=by rw [hW2];exact below_setRow hb1 (aad _) _
 obtain ⟨X2,hX2⟩:∃ X2,X2=ou X1 xs (i*32) 32:=⟨_,rfl⟩
 have hX2l:X2.length=G*32:=by rw [hX2,uH hxl (by omega) (by omega),hX1l]
 have hcpB:∀ ty dc sc,(Builtin.copy_ #[23,23] ty #[.slice (some ⟨w.heap.size,(i+1)*32,none⟩) (c - i) dc,.slice (some ⟨g,i*32,none⟩) (c - i) sc]).run prog W2.drew = .ok (goInt ((c - i:Nat):Int)) (W2.drew.setRow w.heap.size X2.toArray):=fun ty dc sc=>by
  have h:=uj (P:=prog) W2.drew 23 23 ty 29 32 w.heap.size ((i+1)*32) (c - i) dc g (i*32) (c - i) sc X1.toArray 29 (xs.drop (i*32)) underlying23 aW B2 (by rw [hdr,hmB])
   (fun j v hj=>by
    rw [List.getElem?_drop] at hj;exact ((bDr hb2).cell (p:=⟨g,i*32+j,none⟩) hgw).trans (jH hown hj)) (by rw [hdr,aae,hX1l];omega) (fun v hv=>h1 v (List.mem_of_mem_drop hv))
  rw [hmB] at h;rw [h,hX2];have e:(i+1)*32=i*32+32:=by omega
  rw [e];rfl
 have B3:Blk (W2.drew.setRow w.heap.size X2.toArray) w.heap.size 29 X2.toArray:=Blk.row (w:=W2.drew) B2 _;have hb3:Below w.heap.size w (W2.drew.setRow w.heap.size X2.toArray):=below_setRow (bDr hb2) (aad _) _
 have hown2:(W2.drew.setRow w.heap.size X2.toArray).ownsRow base 29 32 (.slice (some ⟨w.heap.size,0,none⟩) (c+1) G) (c+1) (xs.take (i*32)++ag d++xs.drop (i*32)):=by
  refine ⟨?_,.inr ⟨w.heap.size,G,X2.toArray,rfl,hbase,B3,hGn,hGm,by rw [aae];exact hX2l,?_⟩⟩
  ·simp only [aan,aav,aa1,hxl,hdl];omega
  ·show X2.take _=_
   have e:(c+1)*32=c*32+32:=(by omega);rw [e,hX2,hX1];exact SL hRt hxl (by omega) (by rw [hRl];omega) hdl
 have hgr:Grew w (W2.drew.setRow w.heap.size X2.toArray) (.slice (some ⟨g,0,none⟩) c c) (.slice (some ⟨w.heap.size,0,none⟩) (c+1) G) :=
  ⟨grownBy_below hb3 _,.inr ⟨_,rfl,aad _⟩⟩
 have HO:=aab hown2;have HG:=aab hgr;have mixed:prog.follows .mixedOrders=true:=by kernel_rfl
 have hw1:IntKind.i64.wrap ((i:Int)+1)=(i:Int)+1:=by rw [IntKind.wrap_i64];omega
 have hw2:IntKind.i64.wrap ((c:Int)+1)=(c:Int)+1:=by rw [IntKind.wrap_i64];omega
 have hz2:¬((i:Int)=(c:Int)):=by omega
 have hb1':(0:Int)≤(i:Int)+1:=by omega
 have hin:i≤c:=by omega
 have htn:((i:Int)+1).toNat=i+1:=by omega
 have hGi:¬(G=i):=by omega
 have hGim:¬(G=i+1):=by omega
 have hci:¬(c=i):=by omega
 have hb3':(i:Int)≤(c:Int):=by omega
 have hbN:g≠w.heap.size:=by omega
 clear hG hW1 hW2 hown2 hgr hown htk hX1 hX2 hX1l hX2l hB hV B1 B2 B3 hcs hxl hdl hdr hold hROW hRz hRt hRl hzc hZd hZ hkk hik hi0 hz0 hzs hzb hb1 hb2 hb3 hmA hmB;go_enter func61,ntmps61
 go_wp2_with (first
  | (at_builtin;refine Lib.wpList_append_run _ rfl _ _ _ _ rfl _ _ rfl rfl _ _ (hrz _) ?_)
  | (at_builtin;refine xw _ rfl _ _ 23 23 rfl rfl rfl (hcpA _ _) ?_))
 go_region_law_o (refine CO rfl _ _ 23 23 rfl _ _ (by simp [Act.eval,Act.put]) (by simp [Act.eval,Act.put]) (hcpB _ _ _) ?_)
 go_wp2_with fail;go_ret;exact ⟨_,rfl,HO.out,HG.out⟩
theorem Ey:∀ {l:List (List Nat)} (i:Nat),(∀ x∈l,dL x)→(l.flatMap ag).take (i*32)=(l.take i).flatMap ag∧(l.flatMap ag).drop (i*32)=(l.drop i).flatMap ag
 | [],i,_=>by simp
 | x::l,0,_=>by simp
 | x::l,i+1,h=>by
  have hx:(ag x).length=32:=by rw [ai,(h x (List.mem_cons_self ..)).1]
  obtain ⟨h1,h2⟩:=Ey (l:=l) i (fun y hy=>h y (aa8 _ hy));have e:(i+1)*32=(ag x).length+i*32:=by rw [hx];omega
  rw [aaF,e,List.take_length_add_append,List.drop_length_add_append,h1,h2];exact ⟨rfl,rfl⟩
theorem U9 (base:Nat) (v:Value) (l:List (List Nat)) (d:List Nat) (vb:Nat) (w:World) (hown:w.ownsRow base 29 32 v l.length (l.flatMap ag)) (hok:∀ x∈l,dL x) (hV:Blk w vb 29 (ag d).toArray) (hne:some vb≠v.ownBlock) (hd:dL d) (hn:l.length≤1000000) (hbase:base≤w.heap.size) :
  Calls prog 61 #[v,.int .i64 (jU d l:Nat),.slice (some ⟨vb,0,none⟩) 1 1] w (Ac base v (vH d l).length ((vH d l).flatMap ag) w):=by
 have hle:=EL d l;obtain ⟨h1,h2⟩:=Ey (l:=l) (jU d l) hok
 have hput:(vH d l).flatMap ag=(l.flatMap ag).take (jU d l*32)++ag d++(l.flatMap ag).drop (jU d l*32):=by
  rw [h1,h2];unfold vH;simp
 rw [yJ,hput];rcases Nat.eq_or_lt_of_le hle with he | hlt
 ·have e1:(l.flatMap ag).take (jU d l*32)=l.flatMap ag:=by rw [h1,he,abk]
  have e2:(l.flatMap ag).drop (jU d l*32)=[]:=by rw [h2,he,List.drop_length];rfl
  rw [e1,e2,abe,he];exact U8 base v l.length vb _ d w hown hV hd.1 hn hbase
 ·have hc:=hown.2
  rcases hc with ⟨_,h0⟩ | ⟨g,cap,cur,rfl,_⟩
  ·omega
  ·have hone:∀ u∈l.flatMap ag,u.oneCell'=true:=fun u hu=>by
    obtain ⟨x,_,hx⟩:=List.mem_flatMap.1 hu;exact aZ u hx
   by_cases hr:l.length+1≤cap
   ·exact PP base g l.length cap (jU d l) vb _ d w hown hV (fun e=>hne (by rw [e];rfl)) hd.1 hn hlt hr hone
   ·exact SN base g l.length cap (jU d l) vb _ d w hown hV hd.1 hn hlt (by omega) hone hbase
def oV (b p m0 m1 m2 m3 m4:Value) (h:List Value):List Value:=b::p::m0::m1::m2::m3::m4::h
section
variable (A1 A2:Option Addr) (c1 c2:Nat) (bare proofs:List Ltr) (s:MS) (m:Mx) (h:Hd)
def sQ:Array Value:=(oV (.slice A1 bare.length c1) (.slice A2 proofs.length c2) (.slice s.a0 m.inn.length s.c0) (.slice s.a1 m.mid.length s.c1) (.slice s.a2 m.out.length s.c2) (.slice s.a3 m.left.length s.c3) (.slice s.a4 m.right.length s.c4) h.cl).toArray
end
def gK:Value := .slice none 0 0
def bC:List Value:=oV gK gK gK gK gK gK gK dM.cl
def bK:Array Value:=#[.int .i64 0,.int .i64 0,gK,gK]
theorem FP (b p m0 m1 m2 m3 m4:Value) (h:List Value) (j:Nat):(oV b p m0 m1 m2 m3 m4 h).toArray[7+j]?=h[j]?:=by
 rw [aaG,Nat.add_comm];rfl
theorem eG:(prog.info? 49).map (·.size)=some 49:=by kernel_rfl
theorem iM:(prog.info? 25).map (·.size)=some 4:=by kernel_rfl
theorem yz:prog.built 49 []=some bC.toArray:=by kernel_rfl
theorem nG:dM.cl.length=42:=Hd.cl_length qg
theorem xx {b p m0 m1 m2 m3 m4:Value} {h:List Value} (hb:b.oneCell'=true∧p.oneCell'=true∧m0.oneCell'=true∧m1.oneCell'=true∧m2.oneCell'=true∧m3.oneCell'=true∧m4.oneCell'=true) (hh:∀ v∈h,v.oneCell'=true):∀ v∈oV b p m0 m1 m2 m3 m4 h,v.oneCell'=true:=by
 obtain ⟨h0,h1,h2,h3,h4,h5,h6⟩:=hb;intro v hv;unfold oV at hv;simp only [aaq] at hv;rcases hv with rfl | rfl | rfl | rfl | rfl | rfl | rfl | hv <;> first | assumption | exact hh v hv
theorem qL:∀ v∈bC,v.oneCell'=true:=xx ⟨rfl,rfl,rfl,rfl,rfl,rfl,rfl⟩ (Hd.one dM)
theorem dW:bC.toArray.size=49:=by
 rw [aae];show dM.cl.length+7=49;rw [nG]
theorem Xn (eb xb jb:Nat) (u:FrameMode) (W:World) (BE:Blk W eb 42 #[.int .i64 0]) :
  CallsD prog 49 #[.pointer (some ⟨eb,0,none⟩),.pointer (some ⟨xb,0,none⟩),.pointer (some ⟨jb,0,none⟩)] u W (fun r u' w'=>u'=u∧(r = .returned (.tuple #[])∧w'=W)):=by
 have c0:=BE.cell 0;go_enter_d func49,ntmps49
 go_wp2_with fail;go_end0;exact ⟨rfl,rfl⟩
theorem Wu (eb xb jb:Nat) (e:Int) (he:e≠0) (X J:Array Value) (hX:X.size=4) (hJ:J.size=49) (u:FrameMode) (W:World) (BE:Blk W eb 42 #[.int .i64 e]) (BX:Blk W xb 25 X) (BJ:Blk W jb 49 J) :
  CallsD prog 49 #[.pointer (some ⟨eb,0,none⟩),.pointer (some ⟨xb,0,none⟩),.pointer (some ⟨jb,0,none⟩)] u W (fun r u' w'=>u'=u∧(r = .returned (.tuple #[])∧w'=(W.setRow xb bK).setRow jb bC.toArray)):=by
 have c0:=BE.cell 0;have he2:(e != 0)=true:=by simpa using he
 have hbu:=yz;have hzl:=aab dW;have hzo:Hid (∀ v∈bC.toArray.toList,v.oneCell'=true):=aab (by simpa using qL);have BJ2:=BJ.farRowT BX (by decide) bK;generalize bC.toArray=Z at *;go_enter_d func49,ntmps49
 go_upto_region 1 with fail;apply wp_region_lit
 iterate 3 go_step
 refine lT (by rfl) (by rfl) (by rfl) hbu ?_;simp only [Act.put];refine aG (by rfl) (by rfl) (by rfl) (by rfl) (aQ (X:=bK) BX iM (by rw [hX];rfl) (by decide)) ?_;simp only [Act.put];refine aG (by rfl) (by rfl) (by rfl) (by rfl) (aQ BJ2 (by rw [hzl.out];exact eG) (by rw [hJ,hzl.out]) hzo.out) ?_;simp only [Act.put];go_wp2_with fail;go_end0;exact ⟨rfl,rfl⟩
theorem Va (ob hb:Nat) (no s:Int) (v2 v3:Value) (hs:iO s=true) (h:Hd) (ho:h.ok) (W:World) (BO:Blk W ob 25 #[.int .i64 no,.int .i64 s,v2,v3]) (BH:Blk W hb 33 h.cl.toArray) (hG:ShaG W) :
  Calls prog 53 #[.pointer (some ⟨ob,0,none⟩),.pointer (some ⟨hb,0,none⟩)] W (Ret (.bool (decide (h.from_=no)&&h.formed)) W):=by
 have c1:=BO.cell 1;have q:=NG s hs h ho W hG;have hcl:Hid (h.cl.toArray.size=42):=aab (by simpa using Hd.cl_length ho)
 have hms:Hid ((uF s h).cl.toArray.size=42):=aab (by
  have:(uF s h).ok:=by unfold uF;split;exact CG ho;exact qg
  simpa using Hd.cl_length this)
 have hmo:Hid (∀ v∈(uF s h).cl.toArray.toList,v.oneCell'=true):=aab (by simpa using Hd.one (uF s h));have hzl:Hid (dM.cl.toArray.size=42):=aab (by simpa using nG);have hme:Hid ((CE h=0↔h.formed=true)):=aab (by unfold CE;split <;> simp_all);have hfc:Hid (∀ w,Blk w hb 33 h.cl.toArray→w.cell? ⟨hb,4,none⟩=some (.int .i64 h.from_)):=aab (fun w B=>(B.cell 4).trans (by simpa using (Hd.cells ho).2.2.2.2.1));generalize (uF s h).cl.toArray=M at *;generalize h.cl.toArray=H at *;generalize CE h=E at *;obtain ⟨F,hF⟩:∃ F,h.formed=F:=⟨_,rfl⟩
 rw [hF] at hme ⊢;clear hF;generalize h.from_=fr at *;go_enter func53,ntmps53;go_upto_region 1 with fail;apply wp_region_lit
 iterate 6 go_step
 refine aP (by rfl) (by rfl) (by rfl) (bg BH underlying33 rfl (by rw [hcl.out];exact cO)) ?_;simp only [Act.put,aaf,aai,aah];go_wp2_with fail;refine q.mono ?_;rintro e w2 ⟨rfl,b2⟩;clear q;dsimp only
 iterate 13 go_step
 refine aG (by rfl) (by rfl) (by rfl) (by rfl) (bP (X:=M) (by rw [hms.out];exact cO) (by rw [hms.out];rfl) hmo.out) ?_;simp only [Act.put];have hb3:=bAl b2 (.cells M 33);have f4:=hfc.out _ ((BH.below b2 BH.lt).alloc (.cells M 33));have n0:=((BO.below b2 BO.lt).alloc (.cells M 33)).cell 0;generalize w2.alloc (.cells M 33)=w3 at *;clear c1;by_cases hfn:fr=no
 ·subst hfn
  by_cases hE:E=0
  ·obtain rfl:F=true:=hme.out.1 hE
   subst hE;go_wp2_with fail;go_ret;exact ⟨aI (by simp),hb3⟩
  ·obtain rfl:F=false:=by
    cases F with
    | false=>rfl
    | true=>exact absurd (hme.out.2 rfl) hE
   have hE2:(E==0)=false:=(by simpa using hE);go_wp2_with fail;go_ret;exact ⟨aI (by simp),hb3⟩
 ·have hfn2:(fr==no)=false:=by simpa using hfn
  go_wp2_with fail;go_ret;exact ⟨aI (by rw [decide_eq_false hfn];rfl),hb3⟩
theorem SQ (fb:Nat) (b:Bool) (W:World) (BF:Blk W fb 4 #[.bool b]):Calls prog 60 #[.pointer (some ⟨fb,0,none⟩)] W (Ret (.bool !b) W):=by
 have c0:=BF.cell 0;go_enter func60,ntmps60;go_wp2_with fail;go_ret;exact ⟨rfl,aj W⟩
theorem Wv (xb:Nat) (v0 v1 v2:Value) (A:Option Addr) (n c:Nat) (W:World) (BX:Blk W xb 25 #[v0,v1,v2,.slice A n c]):Calls prog 62 #[.pointer (some ⟨xb,0,none⟩)] W (Ret (.bool (decide (n≤4096))) W):=by
 have c3:=BX.cell 3;go_enter func62,ntmps62;go_wp2_with fail;go_ret;exact ⟨aI (by simp;omega),aj W⟩
end
section
open Go.RowKit
theorem NI (A:Option Addr) (n c:Nat) (l:List Nd) (W:World) (hA:Rd W W.heap.size 1 A n (l.map Nd.val)) (hok:∀ x∈l,x.ok) (hn:n≤100) :
  Calls prog 64 #[.slice A n c] W (kL 1 (bZ (l.map Nd.it)).length (ag (bZ (l.map Nd.it))) W):=by
 obtain rfl:l.length=n:=by have:=hA.1;rw [aaQ,aaA] at this;exact this
 go_enter func64,ntmps64;go_wp2_with fail;have BV:=Blk.new W 169 #[.int .i64 3,.int .i64 0,.string ⟨#[]⟩,.slice none 0 0] _ rfl;have hb:=bAl (aj W) (.cells #[.int .i64 3,.int .i64 0,.string ⟨#[]⟩,.slice none 0 0] 169);generalize W.alloc (.cells #[.int .i64 3,.int .i64 0,.string ⟨#[]⟩,.slice none 0 0] 169)=w1 at *;go_loopw [13] (fun i wr=>∃ (k:Nat) (v:Value),k≤l.length∧i = .int .i64 k∧Below W.heap.size W wr∧Blk wr W.heap.size 169 #[.int .i64 3,.int .i64 0,.string ⟨#[]⟩,v]∧wr.ownsRow (W.heap.size+1) 169 4 v k (((l.take k).map Nd.it).flatMap It.cells)) (fun i _=>l.length - (intOf i).toNat)
 case atStart=>exact ⟨0,_,aao _,rfl,hb,BV,World.ownsRow_nil _ _ _ _⟩
 case round =>
  clear hb BV;obtain ⟨k,v,hk,rfl,hb,BV,hown⟩:=hrel;have c3:wr.cell? ⟨W.heap.size,3,none⟩=some v:=BV.cell 3;have z3:=BV.frozen 3;by_cases hlt:k<l.length
  ·obtain ⟨x,hx⟩:∃ x,Hid (l[k]?=some x):=⟨_,aab (aac hlt)⟩
   obtain ⟨b,off,rfl,hbb,hc⟩:=(hA.below hb).2 (by omega);have d0:wr.cell? ⟨b,off+k,none⟩=some x.val:=hc k _ (by rw [aaD,hx.out];rfl);clear hc
   have hsn:Hid (((l.take (k+1)).map Nd.it).flatMap It.cells=((l.take k).map Nd.it).flatMap It.cells++x.it.cells):=by
    obtain ⟨hk,rfl⟩:=aag.1 hx.out;show _=_;rw [aaB hk,aaT,aaP];simp
   have hbs:W.heap.size+1≤wr.heap.size:=BV.lt;have h63:k+1≤maxLen:=(by unfold maxLen;omega);have hby:(k+1)*56≤140737488355328:=(by omega);have hxok:=hok x (aam hx.out);cases x with
   | int m =>
    have hone:=xY (.int m);have ta:=assert_int m;change wr.cell? ⟨b,off+k,none⟩=some (.iface 3 (.int .i64 m)) at d0;go_wp2_with (at_builtin;refine aO wr [.int .i64 1,.int .i64 m,.string ⟨#[]⟩,.slice none 0 0] (.tmp 22) (.tmp 25) 167 (W.heap.size+1) 169 (.agg #[.int .i64 0,.int .i64 0,.string ⟨#[]⟩,.slice none 0 0]) 4 56 v k (((l.take k).map Nd.it).flatMap It.cells) rfl rfl underlying167 gB rfl (by omega) rfl hown rfl rfl hone h63 hby hbs ?_;intro v' w' hown4 hg4;obtain ⟨g',cap',rfl⟩:=ownsRow_succ hown4;have b4:=hg4.below hown hbs;have BV4:=BV.below b4 (by omega);have c4:=kV BV4;have z4:=BV4.frozen 3)
    exact ⟨⟨k+1,_,by omega,by go_num,zQ7 (hb.trans (b4.mono (by omega))) (aad _) _,BV4.set_ 3 _,by rw [hsn.out];exact gX hown4 (p:=⟨W.heap.size,3,none⟩) (by show W.heap.size<W.heap.size+1;omega) _⟩,by simp [intOf];omega⟩
   | dig d =>
    change wr.cell? ⟨b,off+k,none⟩=some (.iface 29 (.agg (ag d).toArray)) at d0;have ta:=uz (ag d).toArray;have tb:=Bc (ag d).toArray;obtain ⟨hd1,hd2⟩:=hxok;have st1:=ny d hd1;have hbl:(ag d).length=32:=(by rw [ai,hd1]);go_upto_region 11 with fail;have BD:=Blk.new wr 29 (ag d).toArray _ rfl;have BV1:=BV.alloc (.cells (ag d).toArray 29);have hown1:=hown.alloc (.cells (ag d).toArray 29);have hb1:=bAl hb (.cells (ag d).toArray 29);have hs1:W.heap.size+1≤(wr.alloc (.cells (ag d).toArray 29)).heap.size:=(by simp;omega);generalize wr.alloc (.cells (ag d).toArray 29)=w2 at *;generalize wr.heap.size=g7 at *;have KS:Hid (∀ w',Below w2.heap.size w2 w'→_):=aab (fun w' h=>And.intro (kV (BV1.below h BV1.lt)) (yY (BD.below h BD.lt) hd1 hd2));clear c3 z3 d0 ta tb st1 hbl;refine kF (f:=6) (n:=1) KS [1,2,1,2,1,0,0,0,0] ?_;simp only [ku,jf];refine aU ?_;refine aT ?_;refine aU ?_;refine aT ?_;refine aU ?_;refine dK ?_
    iterate 1 (refine dn (fun K hK=>?_);go_simp;(first | (fail) | skip);refine lS hK KS ?_;clear hK K)
    refine dA ?_;have hone:=xY (.text (dgS d));change wpList _ _ _ _ _ (w2.drew.alloc (.cells #[.int .i64 2,.int .i64 0,.string (dgS d),.slice none 0 0] 169));replace hown1:w2.drew.ownsRow (W.heap.size+1) 169 4 v k (((l.take k).map Nd.it).flatMap It.cells):=hown1;replace BV1:=Blk.dr BV1;replace hb1:=bDr hb1;replace hs1:W.heap.size+1≤w2.drew.heap.size:=hs1;clear KS BD;refine aO w2.drew [.int .i64 2,.int .i64 0,.string (dgS d),.slice none 0 0] (.tmp 32) (.tmp 36) 167 (W.heap.size+1) 169 (.agg #[.int .i64 0,.int .i64 0,.string ⟨#[]⟩,.slice none 0 0]) 4 56 v k (((l.take k).map Nd.it).flatMap It.cells) (by rfl) (by rfl) underlying167 gB rfl (by omega) (by rfl) hown1 (by rfl) rfl hone h63 hby hs1 ?_;intro v' w' hown4 hg4;obtain ⟨g',cap',rfl⟩:=ownsRow_succ hown4;have b4:=hg4.below hown1 hs1;have BV4:=BV1.below b4 (by omega);have c4:=kV BV4;have z4:=BV4.frozen 3;go_wp2_with fail;refine NoPanic.normal ?_;go_wp2_with fail;exact ⟨⟨k+1,_,by omega,by go_num,zQ7 (hb1.trans (b4.mono (by omega))) (aad _) _,BV4.set_ 3 _,by rw [hsn.out];exact gX hown4 (p:=⟨W.heap.size,3,none⟩) (by show W.heap.size<W.heap.size+1;omega) _⟩,by simp [intOf];omega⟩
  ·have hkn:k=l.length:=by omega
   rw [hkn,abk] at hown;clear hkn;obtain ⟨A2,c2,hv,hR,_⟩:=Sl.of_own hown;subst hv;have e0:wr.cell? ⟨W.heap.size,0,none⟩=some (.int .i64 3):=BV.cell 0;have e1:wr.cell? ⟨W.heap.size,1,none⟩=some (.int .i64 0):=BV.cell 1;have e2:wr.cell? ⟨W.heap.size,2,none⟩=some (.string ⟨#[]⟩):=BV.cell 2
   have q:=lX A2 l.length c2 (l.map Nd.it) wr hR (by
    intro x hx;obtain ⟨y,hy,rfl⟩:=aaK.1 hx;exact Nd.it_ok (hok y hy)) (by omega)
   unfold gJ at q;go_wp2_with fail
   with_reducible refine q.mono ?_
   rintro e w5 ⟨v,rfl,b5,hv⟩;have hb5:=ah hb b5;go_wp2_with fail;go_ret;exact ⟨_,rfl,hb5,hv⟩
end
section
open Go Go.RowKit
def KQ (P:Program) (l:Nat) (R:Ending→World→Prop):Exit→Act→World→Prop
 | .normal,_,w=>∃ v w',(Instr.endRound l none).run P w = .ok v w'∧R (.returned v) w'
 | .panic chain,a,w=>a.defers=[]∧R (.panicked chain) w
 | _,_,_=>False
theorem yA {n:Nat} {P:Program} {l:Nat} {f:FuncId} {fn:Func} {tmps:Array Value} {assign body:Code} {w:World} {R:Ending→World→Prop} (hfn:P.funcs[f]?=some fn)
  (h:assign.wpIn (Fence.wide.inRound l) n P (Exit.then (fun a₁ w₁=>∃ w₂,(Instr.beginRound l).run P w₁ = .ok () w₂∧body.wpIn (Fence.wide.inRound l) n P (KQ P l R) a₁ w₂) (fun _ _ _=>False)) { tmps:=tmps,defers:=[] } w) :
  RoundIn Fence.wide n P l f tmps assign body w R:=by
 refine ⟨trivial,fun c cs hr=>?_⟩
 let b:Frame:={ (default:Frame) with fn:=f,kind := .normal,roundOf:=some l }
 have hb0:Frame.round l f tmps assign body .normal=b.atR { tmps:=tmps,defers:=[] } [.code assign,.beginRound,.code body]:=by
  simp [Frame.round,Frame.atR,b]
 have hr':(Fence.wide.inRound l).room ((c::cs).length+1+n):=hr;have hF':(Fence.wide.inRound l).fn b.fn:=trivial;obtain ⟨e,a₁,w₁,hq,harr⟩:=h b [.beginRound,.code body] (c::cs) rfl hF' hr';rw [←hb0] at harr;cases e with
 | normal =>
  obtain ⟨w₂,hbr,hbody⟩:=hq
  have s1:StepsIn (Machine.fenced P (Fence.wide.inRound l)) P (lone (b.atR a₁ [.beginRound,.code body]) (c::cs) w₁) (lone (b.atR a₁ [.code body]) (c::cs) w₂) :=
   .one (fenced_calm (fr:=b.atR a₁ [.beginRound,.code body]) hF' hr' rfl) (stepR_beginRound rfl hbr)
  obtain ⟨e₂,a₂,w₃,hq₂,harr₂⟩:=hbody b [] (c::cs) rfl hF' hr';cases e₂ with
  | normal =>
   obtain ⟨v,w₄,hend,hR⟩:=hq₂;exact ⟨.returned v,w₄,hR,(StepsIn.trans harr s1).trans (StepsIn.trans harr₂ (.one (fenced_calm (fr:=b.atR a₂ []) hF' hr' rfl) (stepR_round_end rfl rfl hend)))⟩
  | panic chain =>
   obtain ⟨hd,hR⟩:=hq₂;obtain ⟨todo,hs⟩:=harr₂;have hl:({ b.atR a₂ todo with mode := .panicking chain } : Frame).leaving P w₃ (.panicked chain):=⟨rfl,hd,fn,hfn⟩
   exact ⟨.panicked chain,w₃,hR,(StepsIn.trans harr s1).trans (StepsIn.trans hs (.one (fenced_leaving (F:=Fence.wide.inRound l) (n:=n) hF' hr' hl) (step_leave_panicked hl)))⟩
  | ret=>exact hq₂.elim
  | exit id=>exact hq₂.elim
  | goto t=>exact hq₂.elim
  | outgrown=>exact hq₂.elim
 | exit id=>exact hq.elim
 | goto t=>exact hq.elim
 | ret=>exact hq.elim
 | panic chain=>exact hq.elim
 | outgrown=>exact hq.elim
def wpF (f:FuncId) (P:Program) (c:Code) (Q:Exit→Act→World→Prop) (a:Act) (w:World):Prop :=
 ∀ (b:Frame) (k:List Item) (cs:List Frame),b.roundOf=none→b.fn=f →
  ∃ e a' w',Q e a' w'∧ArrivesIn (Machine.fenced P Fence.wide) P (lone (b.atR a (.code c::k)) cs w) b k cs e a' w'
section
variable {f:FuncId} {P:Program} {Q:Exit→Act→World→Prop} {a:Act} {w:World}
theorem eP {c:Code} (h:c.wp P Q a w):wpF f P c Q a w:=fun b k cs hro _=>(wpIn_wide (n:=0)).2 h b k cs hro trivial (room_wide _)
theorem jd {x y:Code} (h:wpF f P x (Exit.then (wpF f P y Q) Q) a w):wpF f P (Code.seq x y) Q a w:=by
 intro b k cs hro hb;have h0:(lone (b.atR a (.code (.seq x y)::k)) cs w).fenced P Fence.wide:=fenced_wide _ _;obtain ⟨e,a₁,w₁,hq,harr⟩:=h b (.code y::k) cs hro hb;cases e with
 | normal =>
  obtain ⟨e₂,a₂,w₂,hq₂,harr₂⟩:=hq b k cs hro hb;exact ⟨e₂,a₂,w₂,hq₂,.of_steps (.head h0 stepR_seq harr) harr₂⟩
 | exit id=>exact ⟨_,a₁,w₁,hq,.of_steps (.one h0 stepR_seq) (.pass (x := .code y) rfl (fun _ _ => .inl (by simp)) harr)⟩
 | goto l=>exact ⟨_,a₁,w₁,hq,.of_steps (.one h0 stepR_seq) (.pass (x := .code y) rfl (fun _ _ => .inl (by simp)) harr)⟩
 | ret=>exact ⟨_,a₁,w₁,hq,.of_steps (.one h0 stepR_seq) (.pass (x := .code y) rfl (fun _ _ => .inl (by simp)) harr)⟩
 | panic ch=>exact ⟨_,a₁,w₁,hq,.of_steps (.one h0 stepR_seq) (.pass (x := .code y) rfl (fun _ _ => .inl (by simp)) harr)⟩
 | outgrown=>exact ⟨_,a₁,w₁,hq,.of_steps (.one h0 stepR_seq) (.pass (x := .code y) rfl (fun _ _ => .inl (by simp)) harr)⟩
theorem PQ {id:Nat} {c:Code} (h:wpF f P c (Exit.inBlock id Q) a w):wpF f P (Code.block id c) Q a w:=by
 intro b k cs hro hb;have h0:(lone (b.atR a (.code (.block id c)::k)) cs w).fenced P Fence.wide:=fenced_wide _ _;obtain ⟨e,a₁,w₁,hq,harr⟩:=h b (.inBlock id::k) cs hro hb;cases e with
 | normal=>exact ⟨.normal,a₁,w₁,hq,.head h0 stepR_block (StepsIn.trans harr (.one (fenced_wide _ _) stepR_inBlock))⟩
 | exit id' =>
  by_cases hid:id'=id
  ·simp only [Exit.inBlock,hid,if_true] at hq
   exact ⟨.normal,a₁,w₁,hq,.head h0 stepR_block (harr.1 k (by simp [exitTo,hid]))⟩
  ·simp only [Exit.inBlock,hid,if_false] at hq
   have this:(id==id')=false:=(by simp;exact fun h=>hid h.symm);have hx:exitTo id' (.inBlock id::k)=exitTo id' k:=by simp [exitTo,this]
   exact ⟨.exit id',a₁,w₁,hq,fun k' hk => .head h0 stepR_block (harr.1 k' (by rw [hx];exact hk)),
    fun hr' hk=>let ⟨k₁,h1,h2⟩:=harr.2 hr' (by rw [hx];exact hk);⟨k₁,h1,.head h0 stepR_block h2⟩⟩
 | goto l =>
  have hx:gotoIn l (.inBlock id::k)=gotoIn l k:=by simp [gotoIn]
  exact ⟨_,a₁,w₁,hq,fun k' hk => .head h0 stepR_block (harr.1 k' (by rw [hx];exact hk)),
   fun hr' hk=>let ⟨k₁,h1,h2⟩:=harr.2 hr' (by rw [hx];exact hk);⟨k₁,h1,.head h0 stepR_block h2⟩⟩
 | ret=>exact ⟨_,a₁,w₁,hq,.of_steps (.one h0 stepR_block) harr⟩
 | panic ch=>exact ⟨_,a₁,w₁,hq,.of_steps (.one h0 stepR_block) harr⟩
 | outgrown=>exact ⟨_,a₁,w₁,hq,.of_steps (.one h0 stepR_block) harr⟩
theorem FQ {fn:Func} {c:Code} {args:Array Value} {R:Ending→World→Prop} (hf:P.funcs[f]?=some fn) (hb:fn.body=some c)
  (h:wpF f P c (AP P fn R) { tmps:=args++Array.replicate (fn.ntmps - args.size) undef,defers:=[] } w):Calls P f args w R:=by
 intro cs
 let b:Frame:={ (default:Frame) with fn:=f,kind := .normal }
 have henter:Frame.enter P f args .normal=b.at { tmps:=args++Array.replicate (fn.ntmps - args.size) undef,defers:=[] } [.code c]:=by
  simp [Frame.enter,Frame.at,hf,hb,b]
 obtain ⟨e,a',w',hq,harr'⟩:=h b [] cs rfl rfl;have harr:=(arrivesIn_iff (b:=b) (fun _ _=>stepsIn_wide) rfl).1 harr';rw [Frame.atR_of_none (show b.roundOf=none from rfl),←henter] at harr;cases e with
 | normal =>
  obtain ⟨e',w'',fr',hR,hs,hfn,hl⟩:=jl a'.defers .returning w' { b.at a' [] with mode := .returning } cs rfl rfl rfl hf rfl hq;exact ⟨e',w'',fr',hR,Comes.of_steps (Steps.trans harr (.one step_end)) hs,hfn,hl⟩
 | ret =>
  obtain ⟨todo,hs₀⟩:=harr;obtain ⟨e',w'',fr',hR,hs,hfn,hl⟩:=jl a'.defers .returning w' { b.at a' todo with mode := .returning } cs rfl rfl rfl hf rfl hq;exact ⟨e',w'',fr',hR,Comes.of_steps hs₀ hs,hfn,hl⟩
 | panic chain =>
  obtain ⟨todo,hs₀⟩:=harr;obtain ⟨e',w'',fr',hR,hs,hfn,hl⟩:=jl a'.defers (.panicking chain) w' { b.at a' todo with mode := .panicking chain } cs rfl rfl rfl hf rfl hq;exact ⟨e',w'',fr',hR,Comes.of_steps hs₀ hs,hfn,hl⟩
 | exit id=>exact hq.elim
 | goto l=>exact hq.elim
 | outgrown=>exact ⟨.outgrown,w',b,hq,harr.resolve_left (by simp [b]),rfl,trivial⟩
def KR (P:Program) (l:Nat) (Q:Exit→Act→World→Prop) (a':Act):Ending→World→Prop
 | .returned _,w₃=>∃ w₄,(Instr.endLoop l).run P w₃ = .ok none w₄∧Q .normal a' w₄
 | .panicked chain,w₃=>Q (.panic chain) a' w₃
 | .outgrown,_=>False
theorem Dx {n:Nat} {g:Operand} {ps:Array Tmp} {assign body:Code}
  (h:∃ (l:Nat) (mark:List Deferred) (w₁:World) (d:Deferred) (w₁':World) (gf:FuncId) (args:Array Value) (w₂:World),
   (Instr.enterLoop f a.tmps ps assign body none).run P w = .ok (l,mark) w₁ ∧
   (resolve a.eval (rangeCall g l) 0).run P w₁ = .ok d w₁' ∧
   (invoke d.target d.args).run P w₁' = .ok (.enter gf args) w₂ ∧
   CallsIn Fence.wide n P gf args w₂ (KR P l Q { a with defers:=mark++a.defers })) :
  wpF f P (Code.rangeFunc g ps assign body) Q a w:=by
 intro b k cs hro hb;obtain ⟨l,mark,w₁,d,w₁',gf,args,w₂,he,hres,hinv,_,hcall⟩:=h;rw [←hro,←hb] at he;have h0:(lone (b.atR a (.code (.rangeFunc g ps assign body)::k)) cs w).fenced P Fence.wide:=fenced_wide _ _;have henter:=stepR_rangeFunc (P:=P) (b:=b) (a:=a) (k:=k) (cs:=cs) (w:=w) he hres hinv;obtain ⟨e,w₃,fr,hR,hsteps,hfn,hleave⟩:=hcall (b.atR { a with defers:=mark++a.defers } (.inRangeFunc l::k)::cs) (room_wide _);have hl:(lone fr (b.atR { a with defers:=mark++a.defers } (.inRangeFunc l::k)::cs) w₃).fenced P Fence.wide:=fenced_wide _ _;cases e with
 | outgrown=>exact hR.elim
 | returned v =>
  obtain ⟨w₄,hend,hj⟩:=hR;refine ⟨.normal,_,w₄,hj,.head h0 henter (StepsIn.trans hsteps (.head hl ?_ (.one (fenced_wide _ _) (stepR_endRangeFunc hend))))⟩;rw [←finish_atR_inRangeFunc l v];exact step_leave_returned hleave
 | panicked chain =>
  refine ⟨.panic chain,_,w₃,hR,.inRangeFunc l::k,.head h0 henter (StepsIn.trans hsteps (.one hl ?_))⟩;rw [←Frame.raise_atR];exact step_leave_panicked hleave
end
def Wx {α:Type} (n:Nat) (P:Program) (g:Nat) (lb:Array Value) (encs:α→Array Value) (Kp:World→World→Prop) (S:List α→Prop) (Pr:List α→α→Prop) (w:World):Prop :=
 ∀ (l:Nat) (J:List α→World→Prop) (Jp:List PanicEntry→World→Prop) (W:World),Below w.heap.size w W→AbidesFrom W.heap.size J →
  (∀ pre x W1,J pre W1→Pr pre x→YieldAt Fence.wide (n - 1) P l (encs x) W1 fun e W' =>
   (e = .returned (.bool true)∧J (pre++[x]) W'∧Kp W1 W')∨(∃ ch,e = .panicked ch∧Jp ch W')) →
  J [] W →
  CallsIn Fence.wide n P g (#[.func (.yield l) #[] #[]]++lb) W fun e W'=>(∃ v xs,e = .returned v∧S xs∧J xs W')∨(∃ ch,e = .panicked ch∧Jp ch W')
def KU {α:Type} (Kp:World→World→Prop) (I:List α→World→Prop) (Ip:List PanicEntry→World→Prop) (xs:List α) (W:World):Exit→Act→World→Prop
 | .normal,_,W'=>KeepsOthers W W'∧Kp W W'∧I xs W'
 | .panic ch,a,W'=>a.defers=[]∧KeepsOthers W W'∧Ip ch W'
 | _,_,_=>False
theorem KW {f:FuncId} {fn:Func} {P:Program} {α:Type} {g:Operand} {ps:Array Tmp} {assign body:Code} {Q:Exit→Act→World→Prop} {a:Act} {w:World} (n:Nat) (hfn:P.funcs[f]?=some fn)
  {gf:Nat} {lb:Array Value} (hg:a.eval g = .func (.func gf) #[] lb) (eg:∀ args w,(callFunc gf args).run P w = .ok (.enter gf args) w)
  {encs:α→Array Value} {Kp:World→World→Prop} {S:List α→Prop} {Pr:List α→α→Prop} (hseq:Wx (n+1) P gf lb encs Kp S Pr w)
  (hKt:∀ {A B C:World},Kp A B→Kp B C→Kp A C) (hKb:∀ (W:World) (l:Nat) (o o':Obj),w.heap.size≤l→W.heap[l]?=some o→o.isCells=false→o.isWalk=false→Kp W (W.putObj l o')) (hps:∀ x,(encs x).size=ps.size)
  (I:List α→World→Prop) (Im:α→Act→List α→World→Prop) (Ip:List PanicEntry→World→Prop) (hI:OwnFrom w.heap.size I) (hIm:∀ x a,OwnFrom w.heap.size (Im x a)) (h0:I [] w)
  (hassign:∀ (l:Nat) (pre:List α) (x:α) (W:World),I pre W→Pr pre x →
   assign.wpIn (Fence.wide.inRound l) n P (Exit.then (fun a₁ W₁=>KeepsOthers W W₁∧Kp W W₁∧Im x a₁ pre W₁) (fun _ _ _=>False)) { tmps:=(ps.zip (encs x)).foldl (fun t (p,v)=>t.setIfInBounds p v) a.tmps,defers:=[] } W)
  (hbody:∀ (l:Nat) (pre:List α) (x:α) (a₁:Act) (W:World),Im x a₁ pre W→Pr pre x→body.wpIn (Fence.wide.inRound l) n P (KU Kp I Ip (pre++[x]) W) a₁ W)
  (hdone:∀ (D:Nat) (xs:List α) (W:World),w.heap.size≤D→S xs→I xs W→W.heap[D]?=some (.deferred (some []))→Q .normal { a with defers:={ target := .collected D,args:=#[] }::a.defers } W)
  (hpan:∀ (D:Nat) (ch:List PanicEntry) (W:World),w.heap.size≤D→Ip ch W→W.heap[D]?=some (.deferred (some []))→Q (.panic ch) { a with defers:={ target := .collected D,args:=#[] }::a.defers } W) :
  wpF f P (Code.rangeFunc g ps assign body) Q a w:=by
 refine Dx (n:=n+1) ?_;obtain ⟨rec,hrec⟩:∃ rec:LoopState→Option Code→Loop,rec=fun st pe=>{ state:=st,pending:=pe,fn:=f,tmps:=a.tmps,params:=ps,assign,body,defers:=w.heap.size }:=⟨_,rfl⟩
 obtain ⟨W1,hW1⟩:∃ W1,(w.alloc (.deferred (some []))).alloc (.loop (rec .ready none))=W1:=⟨_,rfl⟩
 have hL1:W1.heap[w.heap.size+1]?=some (.loop (rec .ready none)):=by
  rw [←hW1];have:=World.alloc_heap_new (w.alloc (.deferred (some []))) (.loop (rec .ready none));rwa [World.size_alloc] at this
 have hK1:W1.heap[w.heap.size]?=some (.deferred (some [])):=by
  rw [←hW1];exact (Below.heap_alloc _ _ _ (by simp)).trans (World.alloc_heap_new w _)
 have hI1:I [] W1:=by rw [←hW1];exact hI.alloc _ (hI.alloc _ h0)
 have hb1:Below w.heap.size w W1:=by rw [←hW1];exact ((Below.refl _ w).alloc (aad _) _).alloc (by simp) _
 refine ⟨w.heap.size+1,[{ target := .collected w.heap.size,args:=#[] }],W1,{ target := .fn (.func gf) lb,args:=#[.func (.yield (w.heap.size+1)) #[] #[]] },W1,gf,
  #[.func (.yield (w.heap.size+1)) #[] #[]]++lb,W1,?_,?_,?_,?_⟩
 ·rw [←hW1,hrec];exact run_enterLoop_outer _ _ _ _ _
 ·simp only [resolve,hg]
  simp [go_sem]
 ·simp [invoke,go_sem,eg]
 ·have hnw:∀ {A B:World} {row:Option Nat},(∀ r,row=some r→W1.heap.size≤r∧∃ o:Obj,A.heap[r]?=some o∧o.isWalk=true)→(∀ r,row=some r→w.heap.size≤r∧∃ o:Obj,A.heap[r]?=some o∧o.isCells=false) :=
   fun hr r e=>by obtain ⟨hB,o,ho,hw⟩:=hr r e;exact ⟨by rw [←hW1] at hB;simp at hB;omega,o,ho,Obj.not_cells_of_walk hw⟩
  refine (hseq (w.heap.size+1)
   (fun pre W=>I pre W∧W.heap[w.heap.size+1]?=some (.loop (rec .ready none))∧W.heap[w.heap.size]?=some (.deferred (some [])))
   (fun ch W=>Ip ch W∧W.heap[w.heap.size]?=some (.deferred (some [])))
   W1 hb1
   (fun s A B row hs hg' hr=>⟨hI s A B row hs.1 hg' (hnw (B:=B) hr),(grownBy_keeps hg' (fun r e=>(hr r e).2) hs.2.1 rfl).trans hs.2.1,(grownBy_keeps hg' (fun r e=>(hr r e).2) hs.2.2 rfl).trans hs.2.2⟩)
   ?_ ⟨hI1,hL1,hK1⟩).mono ?_
  ·rintro pre x W ⟨hi,hl,hk⟩ hlen
   have hy:=run_yield (P:=P) (args:=encs x) hl (by rw [hrec];exact hps x);rw [hrec] at hy;refine ⟨f,_,assign,body,hy,yA hfn (Go.wpIn_mono (hassign _ pre x W hi hlen) ?_)⟩;rintro e a1 Wa hp;cases e with
   | normal =>
    obtain ⟨hka,hkpa,hma⟩:=hp;have hla:=hka.same _ _ hl rfl;have hkka:=hka.same _ _ hk rfl;have hlt:w.heap.size+1<Wa.heap.size:=(aaI.1 hla).1;refine ⟨_,run_beginRound hla (by rw [hrec]),?_⟩;have hl2:(Wa.putObj (w.heap.size+1) (.loop { rec .ready none with state := .busy })).heap[w.heap.size+1]?=some (.loop { rec .ready none with state := .busy }):=World.putObj_heap_same hlt;have hk2:(Wa.putObj (w.heap.size+1) (.loop { rec .ready none with state := .busy })).heap[w.heap.size]?=some (.deferred (some [])):=(World.putObj_heap_other (by omega)).trans hkka;have hw2:Kp W (Wa.putObj (w.heap.size+1) (.loop { rec .ready none with state := .busy })):=hKt hkpa (hKb _ _ _ _ (by omega) hla rfl rfl);refine Go.wpIn_mono (hbody _ pre x a1 _ ((hIm x a1).putObj _ hma (by omega) hla rfl) hlen) ?_;rintro e a3 W3 hp;cases e with
    | normal =>
     obtain ⟨hk3,hkp3,hi3⟩:=hp;have hl3:=hk3.same _ _ hl2 rfl;have hr:=run_endRound (P:=P) none hl3;rw [hrec] at hr;refine ⟨_,_,hr,.inl ⟨rfl,⟨hI.putObj _ hi3 (by omega) hl3 rfl,?_,(World.putObj_heap_other (by omega)).trans (hk3.same _ _ hk2 rfl)⟩,hKt (hKt hw2 hkp3) (hKb _ _ _ _ (by omega) hl3 rfl rfl)⟩⟩;rw [hrec];exact World.putObj_heap_same (aaI.1 hl3).1
    | panic ch =>
     obtain ⟨hd,hk3,hi3⟩:=hp;exact ⟨hd,.inr ⟨ch,rfl,hi3,hk3.same _ _ hk2 rfl⟩⟩
    | ret=>exact hp.elim
    | exit id=>exact hp.elim
    | goto t=>exact hp.elim
    | outgrown=>exact hp.elim
   | ret=>exact hp.elim
   | exit id=>exact hp.elim
   | goto t=>exact hp.elim
   | panic ch=>exact hp.elim
   | outgrown=>exact hp.elim
  ·rintro e W2 (⟨v,xs,rfl,hS,hi,hl,hk⟩ | ⟨ch,rfl,hi,hk⟩)
   ·exact ⟨_,by have:=run_endLoop (P:=P) hl (by rw [hrec];simp);rw [hrec] at this;exact this,hdone _ xs _ (aad _) hS (hI.putObj _ hi (by omega) hl rfl) ((World.putObj_heap_other (by omega)).trans hk)⟩
   ·exact hpan _ ch _ (aad _) hi hk
theorem IM {f:FuncId} {fn:Func} {P:Program} {α:Type} {g:Operand} {ps:Array Tmp} {assign body:Code} {Q:Exit→Act→World→Prop} {a:Act} {w:World} (n:Nat) (hfn:P.funcs[f]?=some fn)
  {gf:Nat} {lb:Array Value} (hg:a.eval g = .func (.func gf) #[] lb) (eg:∀ args w,(callFunc gf args).run P w = .ok (.enter gf args) w)
  {encs:α→Array Value} {Kp:World→World→Prop} {S:List α→Prop} {Pr:List α→α→Prop} (hseq:Wx (n+1) P gf lb encs Kp S Pr w)
  (hKt:∀ {A B C:World},Kp A B→Kp B C→Kp A C) (hKb:∀ (W:World) (l:Nat) (o o':Obj),w.heap.size≤l→W.heap[l]?=some o→o.isCells=false→o.isWalk=false→Kp W (W.putObj l o')) (hps:∀ x,(encs x).size=ps.size)
  (I:List α→World→Prop) (Ip:List PanicEntry→World→Prop) (hI:OwnFrom w.heap.size I) (h0:I [] w)
  (hround:∀ (l:Nat) (pre:List α) (x:α) (W:World),I pre W→Pr pre x →
   assign.wpIn (Fence.wide.inRound l) n P (Exit.then (fun a₁ W₁=>KeepsOthers W W₁∧Kp W W₁∧∃ J:World→Prop,OwnFrom w.heap.size (fun (_:Unit)=>J)∧J W₁∧∀ (L:Nat) (W2:World),J W2→body.wpIn (Fence.wide.inRound L) n P (KU Kp I Ip (pre++[x]) W2) a₁ W2) (fun _ _ _=>False)) { tmps:=(ps.zip (encs x)).foldl (fun t (p,v)=>t.setIfInBounds p v) a.tmps,defers:=[] } W)
  (hdone:∀ (D:Nat) (xs:List α) (W:World),w.heap.size≤D→S xs→I xs W→W.heap[D]?=some (.deferred (some []))→Q .normal { a with defers:={ target := .collected D,args:=#[] }::a.defers } W)
  (hpan:∀ (D:Nat) (ch:List PanicEntry) (W:World),w.heap.size≤D→Ip ch W→W.heap[D]?=some (.deferred (some []))→Q (.panic ch) { a with defers:={ target := .collected D,args:=#[] }::a.defers } W) :
  wpF f P (Code.rangeFunc g ps assign body) Q a w :=
 KW n hfn hg eg hseq hKt hKb hps I (fun x a₁ pre W=>∃ J:World→Prop,OwnFrom w.heap.size (fun (_:Unit)=>J)∧J W∧∀ (L:Nat) (W2:World),J W2→body.wpIn (Fence.wide.inRound L) n P (KU Kp I Ip (pre++[x]) W2) a₁ W2) Ip hI
  (fun x a₁ pre W W' row hs hgr hr=>by obtain ⟨J,hJ,h1,h2⟩:=hs;exact ⟨J,hJ,hJ () W W' row h1 hgr hr,h2⟩) h0 hround
  (fun l pre x a₁ W hIm _=>by obtain ⟨J,_,h1,h2⟩:=hIm;exact h2 l W h1) hdone hpan
attribute [local go_sem] Oper.semAt_some
theorem IP (A:Option Addr) (n c:Nat) (w:World) :
  Calls prog 57 #[.slice A n c] w fun r w' =>
   r = .returned (.func (.func 142) #[] #[.pointer (some ⟨w.heap.size,0,none⟩)])∧w'=w.alloc (.cells #[.slice A n c] 34):=by
 have hmf:∀ (fn:Fn) (first cap:Array Value) (w:World),(Instr.makeFunc fn first cap).run prog w = .ok (.func fn first cap) w:=fun _ _ _ _=>rfl;go_enter func57,ntmps57;go_wp2
 go_ret;exact ⟨rfl,rfl⟩
def ndL (x:Ltr):List Nd:=[.int x.a0,.int x.b0,.int x.a1,.int x.b1,.int x.a2,.int x.b2]
theorem Vb (x:Ltr):bZ ((ndL x).map Nd.it)=x.txt:=rfl
theorem Dy (bp B:Nat) (K:Nat→Prop) (hbp:K bp) (A:Option Addr) (c:Nat) (l:List Ltr) (hok:∀ x∈l,x.ok) (w:World) (hKB:∀ k,k<B→K k) (hK1:K 2) (hK2:K 0)
  (hB:Blk w bp 34 #[.slice A l.length c]) (hA:Rd w B 6 A l.length (l.flatMap Ltr.cl)) (hBw:B≤w.heap.size) (hn:l.length≤1000000) (hG:ShaG w) :
  Wx (2+1) prog 142 #[.pointer (some ⟨bp,0,none⟩)] (fun x:Ltr=>#[dig (kD x)]) (KeepsC K) (fun ys=>ys=l) (fun pre x=>pre++[x] <+: l) w:=by
 intro L J Jp W hW hJ hY h0;replace hB:=hB.below hW hB.lt;replace hA:=hA.below (hW.mono hBw);replace hG:=hG.below hW;have hBW:B≤W.heap.size:=aaj hBw hW.size;clear hW;refine callsIn_of_wp func142 rfl trivial ?_ rfl;simp only [ntmps142,aae,aas,List.length_nil,Nat.reduceAdd,Nat.reduceSub,aaV,aaW,aaX,aaY,aaJ,aaN];have c1:W.cell? ⟨bp,0,none⟩=some (.slice A l.length c):=hB.cell 0
 gi_wp2
 gi_loopw [7] (fun i wr=>∃ k:Nat,i = .int .i64 k∧k≤l.length∧W.heap.size≤wr.heap.size∧Blk wr bp 34 #[.slice A l.length c]∧Rd wr B 6 A l.length (l.flatMap Ltr.cl)∧ShaG wr∧J (l.take k) wr) (fun i _=>l.length - (intOf i).toNat)
 case atStart=>exact ⟨0,rfl,aao _,aad _,hB,hA,hG,by rw [abj];exact h0⟩
 case round =>
  clear hB h0 c1 hA hG;obtain ⟨k,rfl,hk,hsz,hB,hA,hG,hJ1⟩:=hrel;by_cases hlt:k<l.length
  ·obtain ⟨x,hx⟩:∃ x,Hid (l[k]?=some x):=⟨_,aab (aac hlt)⟩
   have hxo:=hok x (aam hx.out);obtain ⟨b,off,rfl,hbb,k0,k1,k2,k3,k4,k5⟩:=jS hA hlt hx.out;refine wpIn_wide.2 ?_;go_upto_region 3 with fail;have BS:=Blk.new wr 63 #[.int .i64 x.a0,.int .i64 x.b0,.int .i64 x.a1,.int .i64 x.b1,.int .i64 x.a2,.int .i64 x.b2] _ rfl;have hb1:=bAl (aj wr) (.cells #[.int .i64 x.a0,.int .i64 x.b0,.int .i64 x.a1,.int .i64 x.b1,.int .i64 x.a2,.int .i64 x.b2] 63);clear k0 k1 k2 k3 k4 k5;generalize wr.alloc (.cells #[.int .i64 x.a0,.int .i64 x.b0,.int .i64 x.a1,.int .i64 x.b1,.int .i64 x.a2,.int .i64 x.b2] 63)=w2 at *;obtain ⟨k0,k1,k2,k3,k4,k5⟩:=BS.six
   have q:=NI (some ⟨w2.heap.size,0,none⟩) 6 6 (ndL x) (w2.alloc (.cells #[.iface 3 (.int .i64 x.a0),.iface 3 (.int .i64 x.b0),.iface 3 (.int .i64 x.a1),.iface 3 (.int .i64 x.b1),.iface 3 (.int .i64 x.a2),.iface 3 (.int .i64 x.b2)] 20))
    (Rd.new w2 _ _ 1 6 _ rfl rfl) (by intro y hy;simp [ndL] at hy;rcases hy with rfl | rfl | rfl | rfl | rfl | rfl;exact hxo.1.1;exact hxo.1.2;exact hxo.2.1.1;exact hxo.2.1.2;exact hxo.2.2.1;exact hxo.2.2.2) (by decide)
   have hb2:=bAl hb1 (.cells #[.iface 3 (.int .i64 x.a0),.iface 3 (.int .i64 x.b0),.iface 3 (.int .i64 x.a1),.iface 3 (.int .i64 x.b1),.iface 3 (.int .i64 x.a2),.iface 3 (.int .i64 x.b2)] 20);rw [Vb] at q;have htl:x.txt.length≤1000012012:=jZ (l:=x.its) (by intro y hy;simp [Ltr.its] at hy;rcases hy with rfl | rfl | rfl | rfl | rfl | rfl;exact hxo.1.1;exact hxo.1.2;exact hxo.2.1.1;exact hxo.2.1.2;exact hxo.2.2.1;exact hxo.2.2.2) (by simp [Ltr.its]);have hto:okB x.txt:=iI _;obtain ⟨D,hD⟩:∃ D,Hid (dig (kD x)=D):=⟨_,aab rfl⟩
   have q2:Hid (∀ (A5:Option Addr) (c5:Nat) (w5:World),Rd w5 w5.heap.size 1 A5 x.txt.length (ag x.txt)→(A5=none→x.txt.length=0∧c5=0)→ShaG w5→Calls prog 117 #[.string ⟨#[115,101,101,110]⟩,.slice A5 x.txt.length c5] w5 (Ret D w5)):=aab (fun A5 c5 w5 h1 h2 h3=>by
    have:=lD ⟨#[115,101,101,110]⟩ A5 _ c5 x.txt w5 h1 h2 hto (by decide) (by omega) h3
    rw [←hD.out];exact this)
   generalize x.txt=T at *;clear htl hto;refine (wpIn_wide (n:=3)).1 ?_
   gi_wp2
   refine ⟨trivial,?_⟩;refine (callsIn_wide.2 q).mono ?_;rintro e w5 ⟨v5,rfl,b5,A5,c5,rfl,hR5,_,_,hnil5⟩;have hb5:=ah hb2 b5;have hG5:=hG.below hb5;clear q b5 hb2 hb1 k0 k1 k2 k3 k4 k5 BS
   gi_wp2
   refine ⟨trivial,?_⟩
   (with_reducible refine (callsIn_wide.2 (q2.out A5 c5 w5 hR5 hnil5 hG5)).mono ?_)
   rintro e w6 ⟨rfl,b6⟩;have hb6:=ah hb5 b6;have hG6:=hG5.below b6;have hJ6:=hJ _ _ _ none hJ1 (grownBy_below hb6 none) (by intro r e;cases e);have hB6:=hB.below hb6 hB.lt;have hA6:=hA.below (hb6.mono (by omega));have hsz6:=aaj hsz hb6.size
   have htk:Hid (l.take k++[x]=l.take (k+1)):=aab (by
    have hx2:=hx.out;obtain ⟨h1,h2⟩:=aag.1 hx2;rw [aaB h1,h2])
   obtain ⟨fn,tmps,assign,body,hy,hR⟩:=hY (l.take k) x w6 hJ6 (by rw [htk.out];exact List.take_prefix _ _);rw [hD.out] at hy;clear q2 hY hG5 hb5 hR5 hnil5 b6
   gi_wp2
   refine hR.mono ?_;rintro e W3 (⟨rfl,hJ3,hk3⟩ | ⟨ch,rfl,hJp3⟩)
   ·rw [htk.out] at hJ3
    have hB3:=hk3.blk hbp hB6;have hA3:=hk3.rd hKB hA6;have hG3:=hG6.kept hk3 hK1 hK2;have hs3:=aaj hsz6 hk3.1;clear hy hB6 hA6 hB hA hG hG6
    gi_wp2
    go_wp2_with fail;exact ⟨⟨k+1,by go_num,by omega,hs3,hB3,hA3,hG3,hJ3⟩,by simp [intOf];omega⟩
   ·exact ⟨rfl,.inr ⟨ch,rfl,hJp3⟩⟩
  ·obtain rfl:k=l.length:=by omega
   rw [abk] at hJ1
   gi_wp2
   go_end0;exact .inl ⟨_,_,rfl,rfl,hJ1⟩
end
section
open Go.RowKit
theorem jJ (n:Int):(It.int n).enc.length≤12:=by
 have:=(fP 10 (mQ n)).2
 show (iV (mQ n)).length+1≤_;unfold iV;omega
theorem IQ (s:ByteArray):(It.text s).enc.length≤12+s.size:=by
 have:=(fP 10 s.size).2
 show (iV s.size++sb s).length+1≤_;rw [aan,uN];unfold iV;omega
theorem zq {h:Hd} (hr:h.root.length=32):h.text.length≤300:=by
 have h1:=fP 10 h.its.length
 have e:h.text.length=1+(iV h.its.length).length+(jA h.its).length:=by
  show (3::(iV h.its.length++jA h.its)).length=_;rw [aas,aan];omega
 have e2:(jA h.its).length=(It.int h.line).enc.length+((It.int h.at_).enc.length+((It.int h.arrive).enc.length+((It.int h.leg).enc.length+((It.int h.from_).enc.length+((It.int h.to_).enc.length+((It.int h.many).enc.length+((It.text (dgS h.root)).enc.length+(It.int h.time).enc.length))))))):=by
  unfold jA Hd.its;simp only [aaF,List.flatMap_nil,abe,aan]
 have i0:=jJ h.line;have i1:=jJ h.at_;have i2:=jJ h.arrive;have i3:=jJ h.leg;have i4:=jJ h.from_;have i5:=jJ h.to_;have i6:=jJ h.many;have i7:=IQ (dgS h.root);have i8:=jJ h.time;rw [sH,hr] at i7;unfold iV at e;omega
theorem xy:∀ {l:List (List Nat)},Dw l=true↔xM l:=by
 intro l;unfold Dw xM;rw [aau,abp];constructor
 ·intro h
  have hs:∀ i (hi:i+1<l.length),bef l[i] l[i+1]=true:=fun i hi=>by
   have:=h (i+1) (aaE.2 hi)
   rw [aS (aac (show i+1 - 1<l.length by omega)),aS (aac hi),decide_eq_false (by omega),Bool.false_or] at this;simpa using this
  have hd:∀ (d i:Nat) (hi:i+d+1<l.length),bef l[i] l[i+d+1]=true:=by
   intro d;induction d with
   | zero=>exact fun i hi=>hs i hi
   | succ d ih=>exact fun i hi=>ng _ _ _ (ih i (by omega)) (hs (i+d+1) (by omega))
  intro i j hi hj hij
  have:=hd (j - i - 1) i (by omega)
  have e:i+(j - i - 1)+1=j:=by omega
  simpa only [e] using this
 ·intro h i hi
  have hi':=aaE.1 hi;rcases aa7 i with rfl | h0
  ·rfl
  ·rw [aS (aac (show i - 1<l.length by omega)),aS (aac hi'),h (i - 1) i (by omega) hi' (by omega)]
   simp
theorem CQ:∀ {l u v:List (List Nat)},iL u l=some v→xM u→(∀ x∈u,x.length=32)→(∀ x∈l,x.length=32)→xM v∧(∀ x∈v,x.length=32)
 | [],u,v,h,hr,hu,_=>by injection h with h;subst h;exact ⟨hr,hu⟩
 | d::l,u,v,h,hr,hu,hl=>by
  unfold iL at h
  split at h
  ·cases h
  ·rename_i hn
   have hd:=hl d (List.mem_cons_self ..);refine CQ h (Gl hr (fun x hx=>by rw [hu x hx,hd]) hn) (fun x hx=>?_) (fun x hx=>hl x (aa8 _ hx));rcases vI.1 hx with rfl | hx
   ·exact hd
   ·exact hu x hx
theorem CS:∀ {l u v:List (List Nat)},iL u l=some v→∀ x,x∈v↔x∈u∨x∈l
 | [],u,v,h,x=>by injection h with h;subst h;simp
 | d::l,u,v,h,x=>by
  unfold iL at h
  split at h
  ·cases h
  ·rw [CS h x,vI,aaq]
   constructor
   ·rintro ((h | h) | h)
    ·exact .inr (.inl h)
    ·exact .inl h
    ·exact .inr (.inr h)
   ·rintro (h | h | h)
    ·exact .inl (.inr h)
    ·exact .inl (.inl h)
    ·exact .inr h
theorem zt:∀ {l u:List (List Nat)} {d:List Nat},d∈u→d∈l→iL u l=none
 | [],u,d,_,h=>by cases h
 | x::l,u,d,hu,hl=>by
  unfold iL
  split
  ·rfl
  ·rename_i hn
   rcases aaq.1 hl with rfl | hl
   ·exact absurd hu hn
   ·exact zt (d:=d) (vI.2 (.inr hu)) hl
theorem KX {l:List Lnk} {K:Lnk} (h:chainB l=true) (hK:Hl (l++[K]) l.length K=true):chainB (l++[K])=true:=by
 unfold chainB at *;rw [aau] at *;intro i hi;have hi':=aaE.1 hi;rw [aan,List.length_singleton] at hi';rcases aa0 i l.length with h1 | h1
 ·have h2:=h i (aaE.2 h1)
  have e1:(l++[K]).getD i CJ=l.getD i CJ:=by
   rw [aaU,aaU,aaO h1]
  rw [e1];unfold Hl at h2 ⊢;have e2:(l++[K]).take i=l.take i:=abm (by omega)
  have e3:((l++[K]).headD (l.getD i CJ))=l.headD (l.getD i CJ):=by
   cases l with
   | nil=>simp at h1
   | cons a l=>rfl
  rw [e2,e3];exact h2
 ·obtain rfl:i=l.length:=by omega
  rw [aS (by rw [aaz (aad _),Nat.sub_self];rfl)];exact hK
section
variable {o:Ofc} {rest:Int} {h:Hd} {inn:List Ltr} {t:Trn} (hw:dh o rest h inn t=0)
include hw
theorem IR:Hl (o.chain++[zh o rest h inn t]) o.chain.length (zh o rest h inn t)=true:=by
 have hg:=(iD hw).1;unfold Ofc.good at hg;simp only [aal,decide_eq_true_eq,aau] at hg;obtain ⟨⟨hno,_⟩,⟨_,hall⟩,_⟩:=hg;have hroot:(IE o rest h inn t).root.length=32:=(wO _).1;have hx:=zq hroot
 have hhead:((o.chain++[zh o rest h inn t]).headD (zh o rest h inn t)).node=o.no:=by
  cases hc:o.chain with
  | nil=>rfl
  | cons a l=>exact hall a (by rw [hc];exact List.mem_cons_self ..)
 unfold Hl;rw [hhead,abm (aad _),aaH (aad _)];have e1:(zh o rest h inn t).node=o.no:=rfl;have e2:(zh o rest h inn t).no=(o.chain.length:Int):=rfl;have e3:(zh o rest h inn t).data=(IE o rest h inn t).text:=rfl;have e4:(zh o rest h inn t).prev=fV o.chain:=rfl;rw [e1,e2,e3,e4];simp only [aal,decide_eq_true_eq];exact ⟨⟨⟨⟨⟨trivial,hno.1⟩,hno.2⟩,trivial⟩,by omega⟩,trivial⟩
theorem CU (hu:∀ x∈o.used,dL x):(oK o rest h inn t).good=true:=by
 have hg:=(iD hw).1;obtain ⟨_,_,_,_,_,u,hu1,hu2,hc⟩:=iD hw;unfold Ofc.good at hg ⊢;simp only [aal,decide_eq_true_eq,aau] at hg ⊢;obtain ⟨⟨hno,hs⟩,⟨hch,hall⟩,hr,_⟩:=hg;have e1:(oK o rest h inn t).chain=o.chain++[zh o rest h inn t]:=rfl;have e2:(oK o rest h inn t).used=u:=by show (mM o inn).getD []=u;rw [hu1];rfl
 have hb:chainB o.chain=true:=by
  unfold chainE at hch;rw [if_neg (by omega)] at hch;by_cases h0:chainB o.chain=true
  ·exact h0
  ·rw [if_neg h0] at hch;cases hch
 rw [e1,e2];refine ⟨⟨hno,hs⟩,⟨?_,?_⟩,?_,hu2⟩
 ·unfold chainE
  rw [if_neg (by rw [aan,List.length_singleton];omega),if_pos (KX hb (IR hw))]
 ·intro x hx
  rcases aaL.1 hx with hx | hx
  ·exact hall x hx
  ·obtain rfl:x=zh o rest h inn t:=by simpa using hx
   rfl
 ·exact xy.2 (CQ hu1 (xy.1 hr) (fun x hx=>(hu x hx).1) (fun x hx=>by obtain ⟨y,_,rfl⟩:=aaK.1 hx;exact (NH y).1)).1
theorem KY (hu:∀ x∈o.used,dL x) {rest':Int} {h':Hd} {inn':List Ltr} {t':Trn} (hf:h'.from_=o.no) (hh:h'.open_.formed=true) (hc:jv inn'=0)
  (hm:kw rest' (bu o.secret inn') t'=0) {x:Ltr} (h1:x∈inn) (h2:x∈inn'):dh (oK o rest h inn t) rest' h' inn' t'=491:=by
 obtain ⟨_,_,_,_,_,u,hu1,_⟩:=iD hw;unfold dh;rw [if_pos ⟨CU hw hu,hf,hh⟩,if_pos hc,if_pos (show kw rest' (bu (oK o rest h inn t).secret inn') t'=0 from hm)]
 have:mM (oK o rest h inn t) inn'=none:=by
  unfold mM;refine zt (d:=kD x) ?_ (List.mem_map_of_mem h2);show kD x∈(mM o inn).getD [];rw [hu1];exact (CS hu1 _).2 (.inr (List.mem_map_of_mem h1))
 rw [this]
end
def oS:Ofc:=⟨3,7,[],[]⟩
def hS:Hd:=⟨1,10,40,0,3,5,0,fB,20,0,0⟩
def hS4:Hd:={ hS with from_:=4 }
def w3S:Wd:=⟨5,6,7⟩
theorem FT:w3S.ok:=fun k=>by
 match k with
 | 0=>exact (by decide:jR 5=true)
 | 1=>exact (by decide:jR 6=true)
 | 2=>exact (by decide:jR 7=true)
theorem NJ:aJ 4 7=16384:=by unfold aJ;rw [if_pos aV];decide
theorem zV8:aJ 4 2=16:=by unfold aJ;rw [if_pos aV];decide
theorem Xo:iO 7=true:=by decide
theorem Wy:pK 7=16384∧x8 7=0:=by
 refine ⟨by rw [wI Xo,NJ],?_⟩;unfold x8;rw [if_pos Xo];unfold zC;rw [if_pos aV]
theorem Af:aA 16=true:=by rw [←zV8];exact aX aV 2
theorem qM:aA 16384=true:=by rw [←NJ];exact aX aV 7
def jO:Int:=262144
theorem VQ:mp (aJ 4 7) (aJ 4 2)=jO:=by rw [NJ,zV8];decide
theorem CV:aA jO=true:=by rw [←VQ];exact mg (aX aV 7) (aX aV 2)
theorem NK:AY [16384,16]=jO∧uy [16384,16]=0:=by
 have h1:kW 1 [16384,16]=some jO:=by
  have e1:oz 1 16384=16384:=by rw [wE nz qM];decide
  have e2:oz 16384 16=jO:=by rw [wE qM Af];decide
  have f1:qQ 1 16384=0:=by unfold qQ;rw [if_pos nz,if_pos qM]
  have f2:qQ 16384 16=0:=by unfold qQ;rw [if_pos qM,if_pos Af]
  simp [kW,e1,e2,f1,f2]
 unfold AY uy;rw [h1];exact ⟨rfl,rfl⟩
def lO:Ltr:=moreL jO 1 2 3 (qP 5 6 7)
theorem NL:MN jO 5 6 7 1 2 3=lO∧MO jO 5 6 7=0:=by
 have hb:nU 5 6 7=true:=Q7 (w:=w3S) |>.2 FT
 unfold MN MO;rw [if_pos CV,if_pos CV,if_pos hb,if_pos hb];exact ⟨rfl,rfl⟩
theorem uk:lO.good=true:=O7 (w:=w3S) CV FT
theorem SV:jv [lO]=0:=wJ.2 ⟨by simp,by simp [uk]⟩
def tO:Trn:=⟨[0],[0],[(4,5,6)],[(7,8,9)],[(fB,fB)]⟩
def oL:Trn:=⟨[],[],[],[],[]⟩
theorem FU:oS.good=true:=by
 unfold Ofc.good oS;decide
theorem SY:tO.fit ((1:Nat):Int)=true:=by decide
theorem FV:bu 7 [lO]=[stripL 7 lO]:=by
 have h:=Iw (s:=7) (l:=[lO]) (k:=0) rfl uk;have hl:=dJ 7 [lO]
 match hb:bu 7 [lO] with
 | []=>rw [hb] at hl;simp at hl
 | [a]=>rw [hb] at h;simp at h;rw [h]
 | a::b::r=>rw [hb] at hl;simp at hl
theorem S9:kw 16 (bu oS.secret [lO]) tO=0:=by
 show kw 16 (bu 7 [lO]) tO=0;rw [FV];unfold kw;rw [if_pos Af,if_neg (by simp),if_pos (by simp [iY uk]),if_pos (show tO.fit (([stripL 7 lO].length:Nat):Int)=true from SY)]
theorem yB:hS.open_.formed=true:=by decide
theorem xA:dh oS 16 hS [lO] tO=0:=by
 have hU:mM oS [lO]=some [kD lO]:=rfl;unfold dh;rw [if_pos ⟨FU,rfl,yB⟩,if_pos SV,if_pos S9,hU];rfl
def xS:Ofc:=oK oS 16 hS [lO] tO
def kS:Jw:=lh oS 16 hS [lO] tO
theorem Vd:xS.good=true:=CU xA (fun x hx=>by cases hx)
theorem IU:dh xS 16 hS [lO] tO=491:=KY xA (fun x hx=>by cases hx) rfl yB SV S9 (List.mem_singleton_self _) (List.mem_singleton_self _)
theorem IV:dh oS 16 hS4 [] oL=490:=by
 unfold dh;rw [if_neg (fun h=>by have:(4:Int)=3:=h.2.1;omega)]
theorem Tc:MJ 31 1 2 Qn=2147483578:=by decide +kernel
theorem Ve:eu 2 Qn=2147483578:=(xU (by decide)).trans Tc
theorem Vf:aA 2=false:=by
 have h:xW 2=false:=by unfold xW;rw [Ve];rfl
 have e:aA 2=(decide ((1:Int)≤2)&&(decide ((2:Int)<2147483579)&&xW 2)):=rfl;rw [e,h];rfl
theorem Vg:dh oS 2 hS [] oL=90:=by
 have h0:jv []=0:=rfl;have hm:kw 2 (bu oS.secret []) oL=90:=by unfold kw;rw [if_neg (by rw [Vf];simp)]
 unfold dh;rw [if_pos ⟨FU,rfl,yB⟩,if_pos h0,if_neg (by rw [hm];omega),hm]
theorem VR:(⟨24,5,[],[]⟩:Ofc).err=490:=by
 unfold Ofc.err;rw [if_neg (by unfold Ofc.good;simp)]
theorem Td:(⟨0,0,[],[]⟩:Ofc).err=490:=by
 unfold Ofc.err;rw [if_neg (by unfold Ofc.good iO;simp)]
theorem Tf:(⟨3,7,[],[]⟩:Ofc).err=0:=if_pos FU
theorem WA:xS.err=0:=if_pos Vd
theorem Ti:∃ y,kS.mix.out=[y]∧y.good=true∧kY (stripL 2 y)=w3S:=by
 obtain ⟨p,y,_,h2,h3,h4,h5,h6,h7⟩:=Et xA (s:=2) zV8.symm (k:=0) rfl;have hp:p=0:=by simp at h2;omega
 subst hp
 have hl:kS.mix.out.length=1:=by
  show (tO.out 16 (bu 7 [lO]) (bu 7 [lO]).length).length=1;rw [Trn.out_length,dJ];rfl
 have h3':kS.mix.out[0]?=some y:=h3;refine ⟨y,?_,h4,?_⟩
 ·match ho:kS.mix.out with
  | []=>rw [ho] at hl;simp at hl
  | [a]=>rw [ho] at h3';simp at h3';rw [h3']
  | a::b::r=>rw [ho] at hl;simp at hl
 ·have hb:lO.by (iE 7)=stripL 7 lO:=by
   have:=FV
   unfold bu at this;simpa using this
  change kY (stripL 2 y)=kY (stripL 2 (lO.by (iE 7))) at h7;rw [h7,hb];have hel:∀ k,aA (w3S.el k)=true:=fun k=>(zW (FT k)).1;have e0:Enc jO w3S.el lO:=Q8 w3S;rw [←VQ] at e0;have e1:=Ee (aX aV 2) hel e0;have h41:=Ff (aX aV 2);rw [←h41] at e1;have e2:=Ee nz hel e1;exact Q9 FT (iY (iY uk)) e2
theorem CW:jc 16384 16 [lO] kS [1] (tO.opens [1])=0:=by
 have:=xn xA [1] rfl (by decide)
 rw [show oS.secret=7 from rfl,Wy.1] at this;exact this
theorem KZ (hd:Hd) (hm:hd.many=2):jc 16384 16 [lO] { kS with hand:=hd } [1] (tO.opens [1])=2:=by
 obtain ⟨y,hy,_⟩:=Ti;have h:=CW;unfold jc at h ⊢;by_cases h1:df 16384 [lO] kS.bare kS.proofs=true
 ·rw [if_pos h1] at h
  by_cases h2:(decide (kS.mix.inn=kS.bare)&&kz 16 kS.mix [1] (tO.opens [1]))=true
  ·have e1:({ kS with hand:=hd } : Jw).bare=kS.bare:=rfl
   have e2:({ kS with hand:=hd } : Jw).proofs=kS.proofs:=rfl;have e3:({ kS with hand:=hd } : Jw).mix=kS.mix:=rfl;rw [e1,e2,e3,if_pos h1,if_pos h2,if_neg];intro h3;simp only [aal,decide_eq_true_eq] at h3;have h4:=h3.2.1;have e4:({ kS with hand:=hd } : Jw).hand.many=2:=hm;rw [e4,hy] at h4;simp at h4
  ·rw [if_neg h2] at h;cases h
 ·rw [if_neg h1] at h;cases h
theorem Vh {key:Int} {y:Ltr} (hk:aA key=true) (hg:y.good=true):kz key (jT key [y] tO) [0] (tO.opens [1])=false:=by
 cases h3:kz key (jT key [y] tO) [0] (tO.opens [1]) with
 | false=>rfl
 | true =>
  exfalso;unfold kz at h3;simp only [aal] at h3;have h4:=aau.1 h3.2.2.1 0 (aaE.2 (by show 0<1;omega));unfold Mx.fits at h4;simp only [aal] at h4;have h5:=Ltr.eqB_iff.1 h4.2.2;change gG key y 7 8 9=agT key y (4,5,6) at h5;unfold agT gG at h5;rw [if_pos hk,if_pos hg,if_pos hk,if_pos hg] at h5;have h6:=(mi key 7 8 9 y 0).1;have h7:=(mi key 4 5 6 y 0).1;rw [h5] at h6;rw [h7] at h6;have ha:=(kG hg 0).1;have v1:aA (aJ 4 (rAt 4 5 6 0))=true:=aX aV _;have v2:aA (aJ 4 (rAt 7 8 9 0))=true:=aX aV _;have h8:=JS ha v1 v2 (by unfold mp at h6;rw [Int.mul_comm,h6,Int.mul_comm]);change aJ 4 4=aJ 4 7 at h8;have p44:aJ 4 4=256:=by unfold aJ;rw [if_pos aV];decide
  rw [NJ,p44] at h8;omega
theorem La:jc 16384 16 [lO] kS [0] (tO.opens [1])=4:=by
 have h:=CW;have e1:kS.mix=jT 16 (bu 7 [lO]) tO:=rfl
 have h0:kz 16 kS.mix [0] (tO.opens [1])=false:=by
  rw [e1,FV];exact Vh Af (iY uk)
 unfold jc at h ⊢;by_cases h1:df 16384 [lO] kS.bare kS.proofs=true
 ·rw [if_pos h1,if_neg]
  rw [h0,Bool.and_false]
  simp
 ·rw [if_neg h1] at h;cases h
theorem Lc:jc 16 16 [] kS [] []=3:=by
 unfold jc;rw [if_neg];intro h;unfold df at h;simp only [aal,decide_eq_true_eq] at h;have h2:([]:List Ltr).length=(bu 7 [lO]).length:=h.2.1;rw [dJ] at h2;simp at h2
theorem IW:jc 4 4 [] vw [] []=2:=by
 have h1:df 4 [] [] []=true:=by
  unfold df;rw [aV];rfl
 have h2:kz 4 SI [] []=true:=by
  unfold kz Mx.form;rw [aV];rfl
 unfold jc;rw [show vw.bare=[] from rfl,show vw.proofs=[] from rfl,show vw.mix=SI from rfl,if_pos h1,h2,if_pos (by rfl),if_neg];intro h;rw [aal] at h;have h3:=h.1;unfold Hd.signed at h3;rw [aal] at h3;have h4:vw.hand.formed=false:=by decide
 rw [h4] at h3;exact absurd h3.1 (by simp)
end
end Go.Proofs.YthbibbkbaphpkaaGreatDoor

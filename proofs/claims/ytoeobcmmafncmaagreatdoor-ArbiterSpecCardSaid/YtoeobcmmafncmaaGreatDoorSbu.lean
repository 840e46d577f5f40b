/- The reference's Fits, walked. -/
import Derived.Test.YtoeobcmmafncmaaGreatDoorSbt
import Derived.Test.YtoeobcmmafncmaaGreatDoorSap
set_option maxRecDepth 1000000
set_option maxHeartbeats 16000000
namespace Go.Proofs.YtoeobcmmafncmaaGreatDoor
open Go.RowKit
def fitsB (key:Int) (d:List Nat) (side:ByteArray) (a b:Ltr) (o:Opn):Bool:=commitsB d side o&&b.eqB (againV key a o.r0 o.r1 o.r2)
theorem opn_load {w:World} {b:Nat} {o:Opn} (ho:o.ok) (B:Blk w b 84 o.cl.toArray):(Instr.loadAt 84 (.pointer (some ⟨b,0,none⟩))).run Tryz.prog w = .ok (.agg o.cl.toArray) w :=
 run_loadAt_mid _ b 0 84 o.cl _ (fun j v hj=>by rw [Nat.zero_add,B.cell];simpa using hj) Tryz.underlying84 rfl (by rw [Opn.cl_length' ho];exact opn_info')
theorem dig_load {w:World} {B n k:Nat} {A:Option Addr} {l:List (List Nat)} {d:List Nat} (h:Rd w B 32 A n (l.flatMap byts)) (ho:∀ d∈l,d.length=32∧okB d) (hk:k<n) (hd:l[k]?=some d) :
  ∃ b off,A=some ⟨b,off,none⟩∧b<B∧d.length=32∧∀ w',Below B w w'→(Instr.loadAt 49 (.pointer (some ⟨b,off+k*32,none⟩))).run Tryz.prog w' = .ok (.agg (byts d).toArray) w':=by
 obtain ⟨b,off,e,hb,h1,h2,hc⟩:=dig_at h ho hk hd
 refine ⟨b,off,e,hb,h1,fun w' hw=>?_⟩
 exact run_loadAt_mid _ b (off+k*32) 49 (byts d) _ (fun j v hj=>(hw.cell (p:=⟨b,off+k*32+j,none⟩) hb).trans (hc j v hj)) dig_under rfl (by rw [byts_length,h1];exact dig_info)
def mixV (A2 A3 A4 A5 A6:Option Addr) (c2 c3 c4 c5 c6:Nat) (j:Jb):Value := .agg #[.slice A2 j.mi.length c2,.slice A3 j.mm.length c3,.slice A4 j.mo.length c4,.slice A5 j.ml.length c5,.slice A6 j.mr.length c6]
theorem ref_fits0 (key:Int) (j:Jb) (o:Opn) (m k:Nat) (A2 A3 A4 A5 A6:Option Addr) (c2 c3 c4 c5 c6:Nat) (W:World) (hS:Rd W W.heap.size 6 A2 j.mi.length (j.mi.flatMap Ltr.cl)) (hC:Rd W W.heap.size 6 A3 j.mm.length (j.mm.flatMap Ltr.cl))
  (hD:Rd W W.heap.size 32 A5 j.ml.length (j.ml.flatMap byts)) (hDo:∀ d∈j.ml,d.length=32∧okB d) (ho:o.ok) (hat:o.at_=(k:Nat)) (hki:k<j.mi.length) (hks:k<j.mi.length) (hkc:m<j.mm.length) (hmd:m<j.ml.length) :
  Calls Tryz.prog 111 #[.int .i64 key,mixV A2 A3 A4 A5 A6 c2 c3 c4 c5 c6 j,.int .i64 (m:Nat),.int .i64 0,.agg o.cl.toArray] W (Ret (.bool (fitsB key (j.ml.getD m []) ⟨#[108,101,102,116]⟩ (j.mi.getD k zeroL) (j.mm.getD m zeroL) o)) W):=by
 unfold mixV
 obtain ⟨X,hX⟩:∃ X,Hid (j.mi[k]?=some X):=⟨_,Lib.hid (List.getElem?_eq_getElem hks)⟩
 obtain ⟨Y,hY⟩:∃ X,Hid (j.mm[m]?=some X):=⟨_,Lib.hid (List.getElem?_eq_getElem hkc)⟩
 obtain ⟨d,hd⟩:∃ X,Hid (j.ml[m]?=some X):=⟨_,Lib.hid (List.getElem?_eq_getElem hmd)⟩
 obtain ⟨v,hv⟩:∃ v,v=fitsB key d ⟨#[108,101,102,116]⟩ X Y o:=⟨_,rfl⟩
 rw [List.getD_eq_getElem?_getD,List.getD_eq_getElem?_getD,List.getD_eq_getElem?_getD,hX.out,hY.out,hd.out,Option.getD_some,Option.getD_some,Option.getD_some,←hv]
 unfold fitsB commitsB at hv
 obtain ⟨Z,hZ⟩:∃ Z,Hid (Z=againV key X o.r0 o.r1 o.r2):=⟨_,Lib.hid rfl⟩
 obtain ⟨T,hT⟩:∃ T,Hid (T=taggedN (sb ⟨#[108,101,102,116]⟩) (encN (o.its.map Nd.it))):=⟨_,Lib.hid rfl⟩
 have hTl:T.length=32:=by rw [hT.out,taggedN_len]
 rw [←hZ.out,←hT.out] at hv
 obtain ⟨er,her⟩:∃ er,Hid (er=againE key X):=⟨_,Lib.hid rfl⟩
 have qa:Hid (∀ w,Calls Tryz.prog 139 #[.int .i64 key,.agg #[.int .i64 X.a0,.int .i64 X.b0,.int .i64 X.a1,.int .i64 X.b1,.int .i64 X.a2,.int .i64 X.b2],.agg #[.int .i64 o.r0,.int .i64 o.r1,.int .i64 o.r2]] w (Ret (.tuple #[.agg #[.int .i64 Z.a0,.int .i64 Z.b0,.int .i64 Z.a1,.int .i64 Z.b1,.int .i64 Z.a2,.int .i64 Z.b2],.int .i64 er]) w)):=by
  intro w
  rw [hZ.out,her.out]
  exact ref_again key o.r0 o.r1 o.r2 X w
 have qc:=fun w=>ref_commit0 o w ho
 rw [←hT.out] at qc
 unfold dig at qc
 have BM:=(Blk.new W 47 #[.slice A2 j.mi.length c2,.slice A3 j.mm.length c3,.slice A4 j.mo.length c4,.slice A5 j.ml.length c5,.slice A6 j.mr.length c6] _ rfl).alloc (.cells o.cl.toArray 84)
 have BO:=Blk.new (W.alloc (.cells #[.slice A2 j.mi.length c2,.slice A3 j.mm.length c3,.slice A4 j.mo.length c4,.slice A5 j.ml.length c5,.slice A6 j.mr.length c6] 47)) 84 o.cl.toArray (W.heap.size+1) (by simp)
 have hb:=bAl (bAl (bRefl W) (.cells #[.slice A2 j.mi.length c2,.slice A3 j.mm.length c3,.slice A4 j.mo.length c4,.slice A5 j.ml.length c5,.slice A6 j.mr.length c6] 47)) (.cells o.cl.toArray 84)
 obtain ⟨bs,os,eS,hbs,sS⟩:=SixAt.of hS hks hX.out
 obtain ⟨bc,oc,eC,hbc,sC⟩:=SixAt.of hC hkc hY.out
 obtain ⟨bd,od,eD,hbd,hdl,lD⟩:=dig_load hD hDo hmd hd.out
 subst eS;subst eC;subst eD
 clear hS hC hD hDo hX hY hd hZ hT her
 go_enter Tryz.func111,Tryz.ntmps111
 go_upto_region 1 with fail
 generalize (W.alloc (.cells #[.slice (some ⟨bs,os,none⟩) j.mi.length c2,.slice (some ⟨bc,oc,none⟩) j.mm.length c3,.slice A4 j.mo.length c4,.slice (some ⟨bd,od,none⟩) j.ml.length c5,.slice A6 j.mr.length c6] 47)).alloc (.cells o.cl.toArray 84)=w1 at *
 have m0:w1.cell? ⟨W.heap.size,0,none⟩=some (.slice (some ⟨bs,os,none⟩) j.mi.length c2):=BM.cell 0
 have o0:w1.cell? ⟨W.heap.size+1,0,none⟩=some (.int .i64 (k:Nat)):=by rw [←hat];exact BO.cell 0
 have f0:(0:Int)≤(k:Int):=by omega
 have f1:(k:Int)<(j.mi.length:Int):=by omega
 have f2:(0:Int)≤(m:Int):=by omega
 have f3:(k:Int)<(j.mi.length:Int):=by omega
 have f4:(m:Int)<(j.mm.length:Int):=by omega
 have f5:(m:Int)<(j.ml.length:Int):=by omega
 have f6:decide (j.mi.length≤k)=false:=by rw [decide_eq_false];omega
 have f7:decide ((k:Int)<0)=false:=by rw [decide_eq_false];omega
 have hws:=hb.size
 go_upto_region 4 with fail
 clear m0 o0
 have KS:Hid (∀ w',Below w1.heap.size w1 w'→(w'.cell? ⟨bs,os+k*6,none⟩=some (.int .i64 X.a0)∧w'.cell? ⟨bs,os+k*6+1,none⟩=some (.int .i64 X.b0)∧w'.cell? ⟨bs,os+k*6+2,none⟩=some (.int .i64 X.a1)∧w'.cell? ⟨bs,os+k*6+3,none⟩=some (.int .i64 X.b1)∧w'.cell? ⟨bs,os+k*6+4,none⟩=some (.int .i64 X.a2)∧w'.cell? ⟨bs,os+k*6+5,none⟩=some (.int .i64 X.b2))∧w'.cell? ⟨W.heap.size,0,none⟩=some (.slice (some ⟨bs,os,none⟩) j.mi.length c2)∧w'.cell? ⟨W.heap.size+1,0,none⟩=some (.int .i64 (k:Nat))∧w'.cell? ⟨W.heap.size+1,1,none⟩=some (.int .i64 o.r0)∧w'.cell? ⟨W.heap.size+1,2,none⟩=some (.int .i64 o.r1)∧w'.cell? ⟨W.heap.size+1,3,none⟩=some (.int .i64 o.r2)):=Lib.hid (fun w' h=>⟨SixAt.below sS hbs ((hb.trans (h.mono hb.size))),(BM.below h BM.lt).cell 0,by rw [←hat];exact (BO.below h BO.lt).cell 0,(BO.below h BO.lt).cell 1,(BO.below h BO.lt).cell 2,(BO.below h BO.lt).cell 3⟩)
 go_cut [11,12] from 28 (fun s9 s10 wc=>∃ lb,s9 = .pointer (some ⟨lb,0,none⟩)∧s10 = .int .i64 er∧Blk wc lb 70 Z.cells∧Below w1.heap.size w1 wc)
 case first =>
  clear hv
  go_region_held3 (fun w'=>(w'.cell? ⟨bs,os+k*6,none⟩=some (.int .i64 X.a0)∧w'.cell? ⟨bs,os+k*6+1,none⟩=some (.int .i64 X.b0)∧w'.cell? ⟨bs,os+k*6+2,none⟩=some (.int .i64 X.a1)∧w'.cell? ⟨bs,os+k*6+3,none⟩=some (.int .i64 X.b1)∧w'.cell? ⟨bs,os+k*6+4,none⟩=some (.int .i64 X.a2)∧w'.cell? ⟨bs,os+k*6+5,none⟩=some (.int .i64 X.b2))∧w'.cell? ⟨W.heap.size,0,none⟩=some (.slice (some ⟨bs,os,none⟩) j.mi.length c2)∧w'.cell? ⟨W.heap.size+1,0,none⟩=some (.int .i64 (k:Nat))∧w'.cell? ⟨W.heap.size+1,1,none⟩=some (.int .i64 o.r0)∧w'.cell? ⟨W.heap.size+1,2,none⟩=some (.int .i64 o.r1)∧w'.cell? ⟨W.heap.size+1,3,none⟩=some (.int .i64 o.r2))
   (exact KS.out _ (by repeat (first | with_reducible exact B7 | with_reducible exact bRefl _ | with_reducible refine bAl ?_ _ | with_reducible refine bDr ?_ | with_reducible refine bSet ?_ (by exact Nat.le_refl _) _)))
   (first
   | (go_simp;go_at_call 139;(with_reducible refine (qa.out _).mono ?_);rintro e w7 ⟨rfl,b7⟩;have B7:Below w1.heap.size w1 w7:=bCall (by repeat (first | exact bRefl _ | refine bAl ?_ _ | refine bDr ?_)) b7;(try (have BZ:Blk w7 w1.heap.size 70 #[.int .i64 0,.int .i64 0,.int .i64 0,.int .i64 0,.int .i64 0,.int .i64 0]:=Blk.below (by first | exact Blk.new _ _ _ _ rfl | exact Blk.dr (Blk.new _ _ _ _ rfl)) b7 (by simp);obtain ⟨k0,k1,k2,k3,k4,k5⟩:=BZ.six;obtain ⟨z0,z1,z2,z3,z4,z5⟩:=BZ.six_free))))
  all_goals
   go_wp2_with fail
   go_meet
   first
    | (with_reducible refine ⟨_,rfl,rfl,Blk.new _ _ _ _ rfl,bAl B7 _⟩;done)
    | exact ⟨_,rfl,rfl,BZ.set6 (.int .i64 Z.a0) (.int .i64 Z.b0) (.int .i64 Z.a1) (.int .i64 Z.b1) (.int .i64 Z.a2) (.int .i64 Z.b2),bSet6 B7 (Nat.le_refl _) (.int .i64 Z.a0) (.int .i64 Z.b0) (.int .i64 Z.a1) (.int .i64 Z.b1) (.int .i64 Z.a2) (.int .i64 Z.b2)⟩
 case rest =>
  obtain ⟨lb,rfl,rfl,BZ,b8⟩:=hcut
  have hb8:=bCall hb b8
  have BM8:=BM.below b8 BM.lt
  have BO8:=BO.below b8 BO.lt
  have hWw:W.heap.size≤wc.heap.size:=hb8.size
  clear KS qa BM BO
  have q:=fun w=>qc w
  have hq:=run_eqD d T hdl hTl
  have hz:=run_eqS Y Z
  unfold Ltr.agg at hz
  have KS:Hid (∀ w',Below wc.heap.size wc w'→(Instr.loadAt 49 (.pointer (some ⟨bd,od+m*32,none⟩))).run Tryz.prog w' = .ok (.agg (byts d).toArray) w'∧(Instr.loadAt 84 (.pointer (some ⟨W.heap.size+1,0,none⟩))).run Tryz.prog w' = .ok (.agg o.cl.toArray) w'∧w'.cell? ⟨W.heap.size,3,none⟩=some (.slice (some ⟨bd,od,none⟩) j.ml.length c5)∧w'.cell? ⟨W.heap.size,1,none⟩=some (.slice (some ⟨bc,oc,none⟩) j.mm.length c3)∧(w'.cell? ⟨bc,oc+m*6,none⟩=some (.int .i64 Y.a0)∧w'.cell? ⟨bc,oc+m*6+1,none⟩=some (.int .i64 Y.b0)∧w'.cell? ⟨bc,oc+m*6+2,none⟩=some (.int .i64 Y.a1)∧w'.cell? ⟨bc,oc+m*6+3,none⟩=some (.int .i64 Y.b1)∧w'.cell? ⟨bc,oc+m*6+4,none⟩=some (.int .i64 Y.a2)∧w'.cell? ⟨bc,oc+m*6+5,none⟩=some (.int .i64 Y.b2))∧(w'.cell? ⟨lb,0,none⟩=some (.int .i64 Z.a0)∧w'.cell? ⟨lb,1,none⟩=some (.int .i64 Z.b0)∧w'.cell? ⟨lb,2,none⟩=some (.int .i64 Z.a1)∧w'.cell? ⟨lb,3,none⟩=some (.int .i64 Z.b1)∧w'.cell? ⟨lb,4,none⟩=some (.int .i64 Z.a2)∧w'.cell? ⟨lb,5,none⟩=some (.int .i64 Z.b2))):=Lib.hid (fun w' h=>⟨lD w' (hb8.trans (h.mono hb8.size)),opn_load ho (BO8.below h BO8.lt),(BM8.below h BM8.lt).cell 3,(BM8.below h BM8.lt).cell 1,SixAt.below sC hbc (hb8.trans (h.mono hb8.size)),six_of (BZ.below h BZ.lt)⟩)
  clear lD sS sC hb b8
  cases hdT:decide (d=T)
  case false =>
   have Hv:Hid (v=false):=by show _=_;rw [hv,hdT];rfl
   rw [hdT] at hq
   clear hv hdT hz
   go_upto_region 5 with fail
   refine wp_region_schB (f:=17) KS [(0,1),(1,2),(2,1),(3,1),(4,2),(5,2),(6,0),(7,1),(8,1),(9,1),(10,1),(11,1),(12,1),(13,1),(14,1),(15,1),(16,1),(17,3)] ?_
   simp only [pickS,List.getElem?_cons_zero,List.getElem?_cons_succ]
   refine wpSched_t ?_
   refine wpSched_r ?_
   iterate 2 refine wpSched_t ?_
   refine wpSched_r (v:=?v1) (hv:=?h1) ?_;case h1=>(intro w hSw;(first | refine (exec_load rfl rfl hSw).trans ?_ | refine (exec_load rfl rfl hSw.1).trans ?_ | refine (exec_load rfl rfl hSw.2.1).trans ?_ | refine (exec_load rfl rfl hSw.2.2.1).trans ?_ | refine (exec_load rfl rfl hSw.2).trans ?_ | refine (exec_load rfl rfl hSw.2.2).trans ?_);with_reducible rfl)
   refine wpSched_r (v:=?v2) (hv:=?h2) ?_;case h2=>(intro w hSw;(first | refine (exec_load rfl rfl hSw).trans ?_ | refine (exec_load rfl rfl hSw.1).trans ?_ | refine (exec_load rfl rfl hSw.2.1).trans ?_ | refine (exec_load rfl rfl hSw.2.2.1).trans ?_ | refine (exec_load rfl rfl hSw.2).trans ?_ | refine (exec_load rfl rfl hSw.2.2).trans ?_);with_reducible rfl)
   refine wpSched_force (fun K hK=>?_)
   go_simp;(first | (go_at_call 140;(with_reducible refine (q _).mono ?_);rintro e w9 ⟨rfl,b9⟩;have B7:Below wc.heap.size wc w9:=bCall (bDr (bRefl _)) b9) | skip)
   refine shut_go hK KS ?_
   clear hK K
   iterate 2 refine wpSched_t ?_
   iterate 7 refine wpSched_p ?_
   refine wpSched_t ?_
   refine wpSched_last ?_
   first | simp only [List.map_nil] | simp only [List.map_cons,List.map_nil]
   go_wp2_with fail
   refine NoPanic.normal ?_
   go_wp2_with fail
   go_ret
   exact ⟨ret_bool Hv.out.symm,bCall hb8 B7⟩
  case true =>
   have Hv:Hid (v=Y.eqB Z):=by show _=_;rw [hv,hdT];rfl
   rw [hdT] at hq
   clear hv hdT
   go_upto_region 5 with fail
   refine wp_region_schB (f:=17) KS [(0,1),(1,2),(2,1),(3,1),(4,2),(5,2),(6,0),(7,1),(8,1),(9,1),(10,2),(11,1),(12,1),(13,2),(14,2),(15,1),(16,1),(17,3)] ?_
   simp only [pickS,List.getElem?_cons_zero,List.getElem?_cons_succ]
   refine wpSched_t ?_
   refine wpSched_r ?_
   iterate 2 refine wpSched_t ?_
   refine wpSched_r (v:=?v3) (hv:=?h3) ?_;case h3=>(intro w hSw;(first | refine (exec_load rfl rfl hSw).trans ?_ | refine (exec_load rfl rfl hSw.1).trans ?_ | refine (exec_load rfl rfl hSw.2.1).trans ?_ | refine (exec_load rfl rfl hSw.2.2.1).trans ?_ | refine (exec_load rfl rfl hSw.2).trans ?_ | refine (exec_load rfl rfl hSw.2.2).trans ?_);with_reducible rfl)
   refine wpSched_r (v:=?v4) (hv:=?h4) ?_;case h4=>(intro w hSw;(first | refine (exec_load rfl rfl hSw).trans ?_ | refine (exec_load rfl rfl hSw.1).trans ?_ | refine (exec_load rfl rfl hSw.2.1).trans ?_ | refine (exec_load rfl rfl hSw.2.2.1).trans ?_ | refine (exec_load rfl rfl hSw.2).trans ?_ | refine (exec_load rfl rfl hSw.2.2).trans ?_);with_reducible rfl)
   refine wpSched_force (fun K hK=>?_)
   go_simp;(first | (go_at_call 140;(with_reducible refine (q _).mono ?_);rintro e w9 ⟨rfl,b9⟩;have B7:Below wc.heap.size wc w9:=bCall (bDr (bRefl _)) b9) | skip)
   refine shut_go hK KS ?_
   clear hK K
   iterate 3 refine wpSched_t ?_
   refine wpSched_r ?_
   iterate 2 refine wpSched_t ?_
   iterate 2 refine wpSched_r ?_
   iterate 2 refine wpSched_t ?_
   refine wpSched_last ?_
   first | simp only [List.map_nil] | simp only [List.map_cons,List.map_nil]
   go_wp2_with fail
   refine NoPanic.normal ?_
   go_wp2_with fail
   go_ret
   exact ⟨ret_bool Hv.out.symm,bCall hb8 B7⟩
theorem ref_fits1 (key:Int) (j:Jb) (o:Opn) (m k:Nat) (A2 A3 A4 A5 A6:Option Addr) (c2 c3 c4 c5 c6:Nat) (W:World) (hS:Rd W W.heap.size 6 A3 j.mm.length (j.mm.flatMap Ltr.cl)) (hC:Rd W W.heap.size 6 A4 j.mo.length (j.mo.flatMap Ltr.cl))
  (hD:Rd W W.heap.size 32 A6 j.mr.length (j.mr.flatMap byts)) (hDo:∀ d∈j.mr,d.length=32∧okB d) (ho:o.ok) (hat:o.at_=(k:Nat)) (hki:k<j.mi.length) (hks:m<j.mm.length) (hkc:k<j.mo.length) (hmd:m<j.mr.length) :
  Calls Tryz.prog 111 #[.int .i64 key,mixV A2 A3 A4 A5 A6 c2 c3 c4 c5 c6 j,.int .i64 (m:Nat),.int .i64 1,.agg o.cl.toArray] W (Ret (.bool (fitsB key (j.mr.getD m []) ⟨#[114,105,103,104,116]⟩ (j.mm.getD m zeroL) (j.mo.getD k zeroL) o)) W):=by
 unfold mixV
 obtain ⟨X,hX⟩:∃ X,Hid (j.mm[m]?=some X):=⟨_,Lib.hid (List.getElem?_eq_getElem hks)⟩
 obtain ⟨Y,hY⟩:∃ X,Hid (j.mo[k]?=some X):=⟨_,Lib.hid (List.getElem?_eq_getElem hkc)⟩
 obtain ⟨d,hd⟩:∃ X,Hid (j.mr[m]?=some X):=⟨_,Lib.hid (List.getElem?_eq_getElem hmd)⟩
 obtain ⟨v,hv⟩:∃ v,v=fitsB key d ⟨#[114,105,103,104,116]⟩ X Y o:=⟨_,rfl⟩
 rw [List.getD_eq_getElem?_getD,List.getD_eq_getElem?_getD,List.getD_eq_getElem?_getD,hX.out,hY.out,hd.out,Option.getD_some,Option.getD_some,Option.getD_some,←hv]
 unfold fitsB commitsB at hv
 obtain ⟨Z,hZ⟩:∃ Z,Hid (Z=againV key X o.r0 o.r1 o.r2):=⟨_,Lib.hid rfl⟩
 obtain ⟨T,hT⟩:∃ T,Hid (T=taggedN (sb ⟨#[114,105,103,104,116]⟩) (encN (o.its.map Nd.it))):=⟨_,Lib.hid rfl⟩
 have hTl:T.length=32:=by rw [hT.out,taggedN_len]
 rw [←hZ.out,←hT.out] at hv
 obtain ⟨er,her⟩:∃ er,Hid (er=againE key X):=⟨_,Lib.hid rfl⟩
 have qa:Hid (∀ w,Calls Tryz.prog 139 #[.int .i64 key,.agg #[.int .i64 X.a0,.int .i64 X.b0,.int .i64 X.a1,.int .i64 X.b1,.int .i64 X.a2,.int .i64 X.b2],.agg #[.int .i64 o.r0,.int .i64 o.r1,.int .i64 o.r2]] w (Ret (.tuple #[.agg #[.int .i64 Z.a0,.int .i64 Z.b0,.int .i64 Z.a1,.int .i64 Z.b1,.int .i64 Z.a2,.int .i64 Z.b2],.int .i64 er]) w)):=by
  intro w
  rw [hZ.out,her.out]
  exact ref_again key o.r0 o.r1 o.r2 X w
 have qc:=fun w=>ref_commit1 o w ho
 rw [←hT.out] at qc
 unfold dig at qc
 have BM:=(Blk.new W 47 #[.slice A2 j.mi.length c2,.slice A3 j.mm.length c3,.slice A4 j.mo.length c4,.slice A5 j.ml.length c5,.slice A6 j.mr.length c6] _ rfl).alloc (.cells o.cl.toArray 84)
 have BO:=Blk.new (W.alloc (.cells #[.slice A2 j.mi.length c2,.slice A3 j.mm.length c3,.slice A4 j.mo.length c4,.slice A5 j.ml.length c5,.slice A6 j.mr.length c6] 47)) 84 o.cl.toArray (W.heap.size+1) (by simp)
 have hb:=bAl (bAl (bRefl W) (.cells #[.slice A2 j.mi.length c2,.slice A3 j.mm.length c3,.slice A4 j.mo.length c4,.slice A5 j.ml.length c5,.slice A6 j.mr.length c6] 47)) (.cells o.cl.toArray 84)
 obtain ⟨bs,os,eS,hbs,sS⟩:=SixAt.of hS hks hX.out
 obtain ⟨bc,oc,eC,hbc,sC⟩:=SixAt.of hC hkc hY.out
 obtain ⟨bd,od,eD,hbd,hdl,lD⟩:=dig_load hD hDo hmd hd.out
 subst eS;subst eC;subst eD
 clear hS hC hD hDo hX hY hd hZ hT her
 go_enter Tryz.func111,Tryz.ntmps111
 go_upto_region 1 with fail
 generalize (W.alloc (.cells #[.slice A2 j.mi.length c2,.slice (some ⟨bs,os,none⟩) j.mm.length c3,.slice (some ⟨bc,oc,none⟩) j.mo.length c4,.slice A5 j.ml.length c5,.slice (some ⟨bd,od,none⟩) j.mr.length c6] 47)).alloc (.cells o.cl.toArray 84)=w1 at *
 have m0:w1.cell? ⟨W.heap.size,0,none⟩=some (.slice A2 j.mi.length c2):=BM.cell 0
 have o0:w1.cell? ⟨W.heap.size+1,0,none⟩=some (.int .i64 (k:Nat)):=by rw [←hat];exact BO.cell 0
 have f0:(0:Int)≤(k:Int):=by omega
 have f1:(k:Int)<(j.mi.length:Int):=by omega
 have f2:(0:Int)≤(m:Int):=by omega
 have f3:(m:Int)<(j.mm.length:Int):=by omega
 have f4:(k:Int)<(j.mo.length:Int):=by omega
 have f5:(m:Int)<(j.mr.length:Int):=by omega
 have f6:decide (j.mi.length≤k)=false:=by rw [decide_eq_false];omega
 have f7:decide ((k:Int)<0)=false:=by rw [decide_eq_false];omega
 have hws:=hb.size
 go_upto_region 6 with fail
 clear m0 o0
 have KS:Hid (∀ w',Below w1.heap.size w1 w'→(w'.cell? ⟨bs,os+m*6,none⟩=some (.int .i64 X.a0)∧w'.cell? ⟨bs,os+m*6+1,none⟩=some (.int .i64 X.b0)∧w'.cell? ⟨bs,os+m*6+2,none⟩=some (.int .i64 X.a1)∧w'.cell? ⟨bs,os+m*6+3,none⟩=some (.int .i64 X.b1)∧w'.cell? ⟨bs,os+m*6+4,none⟩=some (.int .i64 X.a2)∧w'.cell? ⟨bs,os+m*6+5,none⟩=some (.int .i64 X.b2))∧w'.cell? ⟨W.heap.size,1,none⟩=some (.slice (some ⟨bs,os,none⟩) j.mm.length c3)∧w'.cell? ⟨W.heap.size+1,0,none⟩=some (.int .i64 (k:Nat))∧w'.cell? ⟨W.heap.size+1,1,none⟩=some (.int .i64 o.r0)∧w'.cell? ⟨W.heap.size+1,2,none⟩=some (.int .i64 o.r1)∧w'.cell? ⟨W.heap.size+1,3,none⟩=some (.int .i64 o.r2)):=Lib.hid (fun w' h=>⟨SixAt.below sS hbs ((hb.trans (h.mono hb.size))),(BM.below h BM.lt).cell 1,by rw [←hat];exact (BO.below h BO.lt).cell 0,(BO.below h BO.lt).cell 1,(BO.below h BO.lt).cell 2,(BO.below h BO.lt).cell 3⟩)
 go_cut [13,14] from 58 (fun s9 s10 wc=>∃ lb,s9 = .pointer (some ⟨lb,0,none⟩)∧s10 = .int .i64 er∧Blk wc lb 70 Z.cells∧Below w1.heap.size w1 wc)
 case first =>
  clear hv
  go_region_held3 (fun w'=>(w'.cell? ⟨bs,os+m*6,none⟩=some (.int .i64 X.a0)∧w'.cell? ⟨bs,os+m*6+1,none⟩=some (.int .i64 X.b0)∧w'.cell? ⟨bs,os+m*6+2,none⟩=some (.int .i64 X.a1)∧w'.cell? ⟨bs,os+m*6+3,none⟩=some (.int .i64 X.b1)∧w'.cell? ⟨bs,os+m*6+4,none⟩=some (.int .i64 X.a2)∧w'.cell? ⟨bs,os+m*6+5,none⟩=some (.int .i64 X.b2))∧w'.cell? ⟨W.heap.size,1,none⟩=some (.slice (some ⟨bs,os,none⟩) j.mm.length c3)∧w'.cell? ⟨W.heap.size+1,0,none⟩=some (.int .i64 (k:Nat))∧w'.cell? ⟨W.heap.size+1,1,none⟩=some (.int .i64 o.r0)∧w'.cell? ⟨W.heap.size+1,2,none⟩=some (.int .i64 o.r1)∧w'.cell? ⟨W.heap.size+1,3,none⟩=some (.int .i64 o.r2))
   (exact KS.out _ (by repeat (first | with_reducible exact B7 | with_reducible exact bRefl _ | with_reducible refine bAl ?_ _ | with_reducible refine bDr ?_ | with_reducible refine bSet ?_ (by exact Nat.le_refl _) _)))
   (first
   | (go_simp;go_at_call 139;(with_reducible refine (qa.out _).mono ?_);rintro e w7 ⟨rfl,b7⟩;have B7:Below w1.heap.size w1 w7:=bCall (by repeat (first | exact bRefl _ | refine bAl ?_ _ | refine bDr ?_)) b7;(try (have BZ:Blk w7 w1.heap.size 70 #[.int .i64 0,.int .i64 0,.int .i64 0,.int .i64 0,.int .i64 0,.int .i64 0]:=Blk.below (by first | exact Blk.new _ _ _ _ rfl | exact Blk.dr (Blk.new _ _ _ _ rfl)) b7 (by simp);obtain ⟨k0,k1,k2,k3,k4,k5⟩:=BZ.six;obtain ⟨z0,z1,z2,z3,z4,z5⟩:=BZ.six_free))))
  all_goals
   go_wp2_with fail
   go_meet
   first
    | (with_reducible refine ⟨_,rfl,rfl,Blk.new _ _ _ _ rfl,bAl B7 _⟩;done)
    | exact ⟨_,rfl,rfl,BZ.set6 (.int .i64 Z.a0) (.int .i64 Z.b0) (.int .i64 Z.a1) (.int .i64 Z.b1) (.int .i64 Z.a2) (.int .i64 Z.b2),bSet6 B7 (Nat.le_refl _) (.int .i64 Z.a0) (.int .i64 Z.b0) (.int .i64 Z.a1) (.int .i64 Z.b1) (.int .i64 Z.a2) (.int .i64 Z.b2)⟩
 case rest =>
  obtain ⟨lb,rfl,rfl,BZ,b8⟩:=hcut
  have hb8:=bCall hb b8
  have BM8:=BM.below b8 BM.lt
  have BO8:=BO.below b8 BO.lt
  have hWw:W.heap.size≤wc.heap.size:=hb8.size
  clear KS qa BM BO
  have q:=fun w=>qc w
  have hq:=run_eqD d T hdl hTl
  have hz:=run_eqS Y Z
  unfold Ltr.agg at hz
  have KS:Hid (∀ w',Below wc.heap.size wc w'→(Instr.loadAt 49 (.pointer (some ⟨bd,od+m*32,none⟩))).run Tryz.prog w' = .ok (.agg (byts d).toArray) w'∧(Instr.loadAt 84 (.pointer (some ⟨W.heap.size+1,0,none⟩))).run Tryz.prog w' = .ok (.agg o.cl.toArray) w'∧w'.cell? ⟨W.heap.size,4,none⟩=some (.slice (some ⟨bd,od,none⟩) j.mr.length c6)∧w'.cell? ⟨W.heap.size,2,none⟩=some (.slice (some ⟨bc,oc,none⟩) j.mo.length c4)∧(w'.cell? ⟨bc,oc+k*6,none⟩=some (.int .i64 Y.a0)∧w'.cell? ⟨bc,oc+k*6+1,none⟩=some (.int .i64 Y.b0)∧w'.cell? ⟨bc,oc+k*6+2,none⟩=some (.int .i64 Y.a1)∧w'.cell? ⟨bc,oc+k*6+3,none⟩=some (.int .i64 Y.b1)∧w'.cell? ⟨bc,oc+k*6+4,none⟩=some (.int .i64 Y.a2)∧w'.cell? ⟨bc,oc+k*6+5,none⟩=some (.int .i64 Y.b2))∧(w'.cell? ⟨lb,0,none⟩=some (.int .i64 Z.a0)∧w'.cell? ⟨lb,1,none⟩=some (.int .i64 Z.b0)∧w'.cell? ⟨lb,2,none⟩=some (.int .i64 Z.a1)∧w'.cell? ⟨lb,3,none⟩=some (.int .i64 Z.b1)∧w'.cell? ⟨lb,4,none⟩=some (.int .i64 Z.a2)∧w'.cell? ⟨lb,5,none⟩=some (.int .i64 Z.b2))∧w'.cell? ⟨W.heap.size+1,0,none⟩=some (.int .i64 (k:Nat))):=Lib.hid (fun w' h=>⟨lD w' (hb8.trans (h.mono hb8.size)),opn_load ho (BO8.below h BO8.lt),(BM8.below h BM8.lt).cell 4,(BM8.below h BM8.lt).cell 2,SixAt.below sC hbc (hb8.trans (h.mono hb8.size)),six_of (BZ.below h BZ.lt),by rw [←hat];exact (BO8.below h BO8.lt).cell 0⟩)
  clear lD sS sC hb b8
  cases hdT:decide (d=T)
  case false =>
   have Hv:Hid (v=false):=by show _=_;rw [hv,hdT];rfl
   rw [hdT] at hq
   clear hv hdT hz
   go_upto_region 7 with fail
   refine wp_region_schB (f:=18) KS [(0,1),(1,2),(2,1),(3,1),(4,2),(5,2),(6,0),(7,1),(8,1),(9,1),(10,1),(11,1),(12,1),(13,1),(14,1),(15,1),(16,1),(17,1),(18,3)] ?_
   simp only [pickS,List.getElem?_cons_zero,List.getElem?_cons_succ]
   refine wpSched_t ?_
   refine wpSched_r ?_
   iterate 2 refine wpSched_t ?_
   refine wpSched_r (v:=?v5) (hv:=?h5) ?_;case h5=>(intro w hSw;(first | refine (exec_load rfl rfl hSw).trans ?_ | refine (exec_load rfl rfl hSw.1).trans ?_ | refine (exec_load rfl rfl hSw.2.1).trans ?_ | refine (exec_load rfl rfl hSw.2.2.1).trans ?_ | refine (exec_load rfl rfl hSw.2).trans ?_ | refine (exec_load rfl rfl hSw.2.2).trans ?_);with_reducible rfl)
   refine wpSched_r (v:=?v6) (hv:=?h6) ?_;case h6=>(intro w hSw;(first | refine (exec_load rfl rfl hSw).trans ?_ | refine (exec_load rfl rfl hSw.1).trans ?_ | refine (exec_load rfl rfl hSw.2.1).trans ?_ | refine (exec_load rfl rfl hSw.2.2.1).trans ?_ | refine (exec_load rfl rfl hSw.2).trans ?_ | refine (exec_load rfl rfl hSw.2.2).trans ?_);with_reducible rfl)
   refine wpSched_force (fun K hK=>?_)
   go_simp;(first | (go_at_call 140;(with_reducible refine (q _).mono ?_);rintro e w9 ⟨rfl,b9⟩;have B7:Below wc.heap.size wc w9:=bCall (bDr (bRefl _)) b9) | skip)
   refine shut_go hK KS ?_
   clear hK K
   iterate 2 refine wpSched_t ?_
   iterate 8 refine wpSched_p ?_
   refine wpSched_t ?_
   refine wpSched_last ?_
   first | simp only [List.map_nil] | simp only [List.map_cons,List.map_nil]
   go_wp2_with fail
   refine NoPanic.normal ?_
   go_wp2_with fail
   go_ret
   exact ⟨ret_bool Hv.out.symm,bCall hb8 B7⟩
  case true =>
   have Hv:Hid (v=Y.eqB Z):=by show _=_;rw [hv,hdT];rfl
   rw [hdT] at hq
   clear hv hdT
   go_upto_region 7 with fail
   refine wp_region_schB (f:=18) KS [(0,1),(1,2),(2,1),(3,1),(4,2),(5,2),(6,0),(7,1),(8,1),(9,1),(10,2),(11,1),(12,2),(13,1),(14,2),(15,2),(16,1),(17,1),(18,3)] ?_
   simp only [pickS,List.getElem?_cons_zero,List.getElem?_cons_succ]
   refine wpSched_t ?_
   refine wpSched_r ?_
   iterate 2 refine wpSched_t ?_
   refine wpSched_r (v:=?v7) (hv:=?h7) ?_;case h7=>(intro w hSw;(first | refine (exec_load rfl rfl hSw).trans ?_ | refine (exec_load rfl rfl hSw.1).trans ?_ | refine (exec_load rfl rfl hSw.2.1).trans ?_ | refine (exec_load rfl rfl hSw.2.2.1).trans ?_ | refine (exec_load rfl rfl hSw.2).trans ?_ | refine (exec_load rfl rfl hSw.2.2).trans ?_);with_reducible rfl)
   refine wpSched_r (v:=?v8) (hv:=?h8) ?_;case h8=>(intro w hSw;(first | refine (exec_load rfl rfl hSw).trans ?_ | refine (exec_load rfl rfl hSw.1).trans ?_ | refine (exec_load rfl rfl hSw.2.1).trans ?_ | refine (exec_load rfl rfl hSw.2.2.1).trans ?_ | refine (exec_load rfl rfl hSw.2).trans ?_ | refine (exec_load rfl rfl hSw.2.2).trans ?_);with_reducible rfl)
   refine wpSched_force (fun K hK=>?_)
   go_simp;(first | (go_at_call 140;(with_reducible refine (q _).mono ?_);rintro e w9 ⟨rfl,b9⟩;have B7:Below wc.heap.size wc w9:=bCall (bDr (bRefl _)) b9) | skip)
   refine shut_go hK KS ?_
   clear hK K
   iterate 3 refine wpSched_t ?_
   refine wpSched_r ?_
   refine wpSched_t ?_
   refine wpSched_r ?_
   refine wpSched_t ?_
   iterate 2 refine wpSched_r ?_
   iterate 2 refine wpSched_t ?_
   refine wpSched_last ?_
   first | simp only [List.map_nil] | simp only [List.map_cons,List.map_nil]
   go_wp2_with fail
   refine NoPanic.normal ?_
   go_wp2_with fail
   go_ret
   exact ⟨ret_bool Hv.out.symm,bCall hb8 B7⟩
theorem ref_fits1_out (key:Int) (j:Jb) (o:Opn) (m:Nat) (A2 A3 A4 A5 A6:Option Addr) (c2 c3 c4 c5 c6:Nat) (W:World) (hat:o.at_<0∨(j.mi.length:Int)≤o.at_) :
  Calls Tryz.prog 111 #[.int .i64 key,mixV A2 A3 A4 A5 A6 c2 c3 c4 c5 c6 j,.int .i64 (m:Nat),.int .i64 1,.agg o.cl.toArray] W (Ret (.bool false) W):=by
 unfold mixV
 have BM:=(Blk.new W 47 #[.slice A2 j.mi.length c2,.slice A3 j.mm.length c3,.slice A4 j.mo.length c4,.slice A5 j.ml.length c5,.slice A6 j.mr.length c6] _ rfl).alloc (.cells o.cl.toArray 84)
 have BO:=Blk.new (W.alloc (.cells #[.slice A2 j.mi.length c2,.slice A3 j.mm.length c3,.slice A4 j.mo.length c4,.slice A5 j.ml.length c5,.slice A6 j.mr.length c6] 47)) 84 o.cl.toArray (W.heap.size+1) (by simp)
 have hb:=bAl (bAl (bRefl W) (.cells #[.slice A2 j.mi.length c2,.slice A3 j.mm.length c3,.slice A4 j.mo.length c4,.slice A5 j.ml.length c5,.slice A6 j.mr.length c6] 47)) (.cells o.cl.toArray 84)
 go_enter Tryz.func111,Tryz.ntmps111
 go_upto_region 1 with fail
 generalize (W.alloc (.cells #[.slice A2 j.mi.length c2,.slice A3 j.mm.length c3,.slice A4 j.mo.length c4,.slice A5 j.ml.length c5,.slice A6 j.mr.length c6] 47)).alloc (.cells o.cl.toArray 84)=w1 at *
 have m0:w1.cell? ⟨W.heap.size,0,none⟩=some (.slice A2 j.mi.length c2):=BM.cell 0
 have o0:w1.cell? ⟨W.heap.size+1,0,none⟩=some (.int .i64 o.at_):=BO.cell 0
 generalize o.at_=z at *
 by_cases hz:z<0
 ·clear hat
  go_wp2_with fail
  go_ret
  exact ⟨rfl,hb⟩
 ·have hz2:(j.mi.length:Int)≤z:=by omega
  clear hat
  go_wp2_with fail
  go_ret
  exact ⟨rfl,hb⟩
def openedR (rest:Int) (n:Nat) (j:Jb) (s:Stp) (k:Nat):Bool :=
 lensB n j&&((j.mi.getD k zeroL).eqB (j.bare.getD k zeroL)&&(decide (s.at_=k)&&(decide (s.left.at_=k)&&(decide (0≤s.mid)&&(decide (s.mid<n) &&
  (fitsB rest (j.ml.getD s.mid.toNat []) ⟨#[108,101,102,116]⟩ (j.mi.getD k zeroL) (j.mm.getD s.mid.toNat zeroL) s.left &&
   (decide (0≤s.right.at_∧s.right.at_<n)&&fitsB rest (j.mr.getD s.mid.toNat []) ⟨#[114,105,103,104,116]⟩ (j.mm.getD s.mid.toNat zeroL) (j.mo.getD s.right.at_.toNat zeroL) s.right)))))))
theorem stp_loads {w:World} {b:Nat} {s:Stp} (hs:s.ok) (B:Blk w b 86 s.cl.toArray) :
  (Instr.loadAt 84 (.pointer (some ⟨b,1,none⟩))).run Tryz.prog w = .ok (.agg s.left.cl.toArray) w∧(Instr.loadAt 84 (.pointer (some ⟨b,37,none⟩))).run Tryz.prog w = .ok (.agg s.right.cl.toArray) w:=by
 obtain ⟨_,h1,h2,_⟩:=Stp.cells hs
 have l1:=Opn.cl_length' hs.2.1
 have l2:=Opn.cl_length' hs.2.2.1
 refine ⟨run_loadAt_mid _ b 1 84 s.left.cl _ (fun j v hj=>?_) Tryz.underlying84 rfl (by rw [l1];exact opn_info'),run_loadAt_mid _ b 37 84 s.right.cl _ (fun j v hj=>?_) Tryz.underlying84 rfl (by rw [l2];exact opn_info')⟩
 ·have hj36:j<36:=by have:=(List.getElem?_eq_some_iff.1 hj).1;omega
  rw [B.cell,List.getElem?_toArray,h1 j hj36];exact hj
 ·have hj36:j<36:=by have:=(List.getElem?_eq_some_iff.1 hj).1;omega
  rw [B.cell,List.getElem?_toArray,h2 j hj36];exact hj
theorem stp_cells {w:World} {b:Nat} {s:Stp} (hs:s.ok) (B:Blk w b 86 s.cl.toArray):w.cell? ⟨b,0,none⟩=some (.int .i64 s.at_)∧w.cell? ⟨b,1,none⟩=some (.int .i64 s.left.at_)∧w.cell? ⟨b,37,none⟩=some (.int .i64 s.right.at_)∧w.cell? ⟨b,73,none⟩=some (.int .i64 s.mid):=by
 obtain ⟨h0,h1,h2,h3⟩:=Stp.cells hs
 refine ⟨?_,?_,?_,?_⟩
 ·rw [B.cell,List.getElem?_toArray];exact h0
 ·rw [B.cell,List.getElem?_toArray];exact (h1 0 (by omega)).trans rfl
 ·rw [B.cell,List.getElem?_toArray];exact (h2 0 (by omega)).trans rfl
 ·rw [B.cell,List.getElem?_toArray];exact h3
theorem five {w:World} {b:Nat} {t:TypeId} {v0 v1 v2 v3 v4:Value} (h:Blk w b t #[v0,v1,v2,v3,v4]):w.cell? ⟨b,0,none⟩=some v0∧w.cell? ⟨b,1,none⟩=some v1∧w.cell? ⟨b,2,none⟩=some v2∧w.cell? ⟨b,3,none⟩=some v3∧w.cell? ⟨b,4,none⟩=some v4:=⟨h.cell 0,h.cell 1,h.cell 2,h.cell 3,h.cell 4⟩
theorem ref_opened (rest:Int) (jc:Array Value) (j:Jb) (s:Stp) (n k:Nat) (W:World) (hj:JobAt W W.heap.size (fun i=>jc[i]?) j) (hs:s.ok) (hk:k<n) (hbl:j.bare.length=n) :
  Calls Tryz.prog 74 #[.int .i64 rest,.agg jc,.agg s.cl.toArray,.int .i64 (n:Nat),.int .i64 (k:Nat)] W (Ret (.bool (openedR rest n j s k)) W):=by
 obtain ⟨v,hv⟩:∃ v,v=openedR rest n j s k:=⟨_,rfl⟩
 rw [←hv]
 unfold openedR lensB at hv
 obtain ⟨A1,c1,h0,r1,-⟩:=hj.h0
 obtain ⟨A2,c2,h2,r2,-⟩:=hj.h2
 obtain ⟨A3,c3,h3,r3,-⟩:=hj.h3
 obtain ⟨A4,c4,h4,r4,-⟩:=hj.h4
 obtain ⟨A5,c5,h5,r5,-,-,d5⟩:=hj.h5
 obtain ⟨A6,c6,h6,r6,-,-,d6⟩:=hj.h6
 have BJ:=(Blk.new W 55 jc _ rfl).alloc (.cells s.cl.toArray 86)
 have BS:=Blk.new (W.alloc (.cells jc 55)) 86 s.cl.toArray (W.heap.size+1) (by simp)
 have hb:=bAl (bAl (bRefl W) (.cells jc 55)) (.cells s.cl.toArray 86)
 go_enter Tryz.func74,Tryz.ntmps74
 go_upto_region 1 with fail
 generalize (W.alloc (.cells jc 55)).alloc (.cells s.cl.toArray 86)=w1 at *
 have y2:=(BJ.cell 2).trans h2
 have y3:=(BJ.cell 3).trans h3
 have y4:=(BJ.cell 4).trans h4
 have y5:=(BJ.cell 5).trans h5
 have y6:=(BJ.cell 6).trans h6
 have y0:=(BJ.cell 0).trans h0
 clear h0 h2 h3 h4 h5 h6 hj
 go_upto_region 2 with fail
 have BM:=Blk.new w1 47 #[.slice A2 j.mi.length c2,.slice A3 j.mm.length c3,.slice A4 j.mo.length c4,.slice A5 j.ml.length c5,.slice A6 j.mr.length c6] _ rfl
 have BJ2:=BJ.alloc (.cells #[.slice A2 j.mi.length c2,.slice A3 j.mm.length c3,.slice A4 j.mo.length c4,.slice A5 j.ml.length c5,.slice A6 j.mr.length c6] 47)
 have BS2:=BS.alloc (.cells #[.slice A2 j.mi.length c2,.slice A3 j.mm.length c3,.slice A4 j.mo.length c4,.slice A5 j.ml.length c5,.slice A6 j.mr.length c6] 47)
 have hb2:=bAl hb (.cells #[.slice A2 j.mi.length c2,.slice A3 j.mm.length c3,.slice A4 j.mo.length c4,.slice A5 j.ml.length c5,.slice A6 j.mr.length c6] 47)
 have y0':=((Blk.alloc BJ (.cells #[.slice A2 j.mi.length c2,.slice A3 j.mm.length c3,.slice A4 j.mo.length c4,.slice A5 j.ml.length c5,.slice A6 j.mr.length c6] 47)).cell 0).trans ((BJ.cell 0).symm.trans y0)
 have hgm:W.heap.size+1<w1.heap.size:=BS.lt
 clear BJ BS hb y0 y2 y3 y4 y5 y6
 generalize w1.alloc (.cells #[.slice A2 j.mi.length c2,.slice A3 j.mm.length c3,.slice A4 j.mo.length c4,.slice A5 j.ml.length c5,.slice A6 j.mr.length c6] 47)=w2 at *
 generalize w1.heap.size=gm at *
 obtain ⟨x0,x1,x2,x3,x4⟩:=five BM
 have e0:(0:Int)≤(k:Int):=by omega
 by_cases t1:j.mi.length=n
 case neg =>
  have Hv:Hid (v=false):=by show _=_;rw [hv,decide_eq_false t1];simp
  have g1:((j.mi.length:Int) != (n:Int))=true:=by rw [bne_iff_ne];omega
  clear hv t1
  go_quiet (fail)
  go_wp2_with fail
  go_ret
  exact ⟨ret_bool Hv.out.symm,bDrN hb2 nq⟩
 have g1:((j.mi.length:Int) != (n:Int))=false:=by rw [bne_eq_false_iff_eq];omega
 by_cases t2:j.mm.length=n
 case neg =>
  have Hv:Hid (v=false):=by show _=_;rw [hv,decide_eq_false t2];simp
  have g2:((j.mm.length:Int) != (n:Int))=true:=by rw [bne_iff_ne];omega
  clear hv t1 t2
  go_quiet (fail)
  go_wp2_with fail
  go_ret
  exact ⟨ret_bool Hv.out.symm,bDrN hb2 nq⟩
 have g2:((j.mm.length:Int) != (n:Int))=false:=by rw [bne_eq_false_iff_eq];omega
 by_cases t3:j.mo.length=n
 case neg =>
  have Hv:Hid (v=false):=by show _=_;rw [hv,decide_eq_false t3];simp
  have g3:((j.mo.length:Int) != (n:Int))=true:=by rw [bne_iff_ne];omega
  clear hv t1 t2 t3
  go_quiet (fail)
  go_wp2_with fail
  go_ret
  exact ⟨ret_bool Hv.out.symm,bDrN hb2 nq⟩
 have g3:((j.mo.length:Int) != (n:Int))=false:=by rw [bne_eq_false_iff_eq];omega
 by_cases t4:j.ml.length=n
 case neg =>
  have Hv:Hid (v=false):=by show _=_;rw [hv,decide_eq_false t4];simp
  have g4:((j.ml.length:Int) != (n:Int))=true:=by rw [bne_iff_ne];omega
  clear hv t1 t2 t3 t4
  go_quiet (fail)
  go_wp2_with fail
  go_ret
  exact ⟨ret_bool Hv.out.symm,bDrN hb2 nq⟩
 have g4:((j.ml.length:Int) != (n:Int))=false:=by rw [bne_eq_false_iff_eq];omega
 by_cases t5:j.mr.length=n
 case neg =>
  have Hv:Hid (v=false):=by show _=_;rw [hv,decide_eq_false t5];simp
  have g5:((j.mr.length:Int) != (n:Int))=true:=by rw [bne_iff_ne];omega
  clear hv t1 t2 t3 t4 t5
  go_quiet (fail)
  go_wp2_with fail
  go_ret
  exact ⟨ret_bool Hv.out.symm,bDrN hb2 nq⟩
 have g5:((j.mr.length:Int) != (n:Int))=false:=by rw [bne_eq_false_iff_eq];omega
 have g6:((j.bare.length:Int) != (n:Int))=false:=by rw [bne_eq_false_iff_eq];omega
 have hki:k<j.mi.length:=by omega
 have hkb:k<j.bare.length:=by omega
 have f1:(k:Int)<(j.mi.length:Int):=by omega
 have f2:(k:Int)<(j.bare.length:Int):=by omega
 obtain ⟨X,hX⟩:∃ X,Hid (j.mi[k]?=some X):=⟨_,Lib.hid (List.getElem?_eq_getElem hki)⟩
 obtain ⟨Y,hY⟩:∃ X,Hid (j.bare[k]?=some X):=⟨_,Lib.hid (List.getElem?_eq_getElem hkb)⟩
 obtain ⟨ba,oa,eA,hba,sa⟩:=SixAt.of (r2.below hb2) hki hX.out
 obtain ⟨bb,ob,eB,hbb,sb⟩:=SixAt.of (r1.below hb2) hkb hY.out
 have hne:=run_neS X Y
 unfold Ltr.agg at hne
 have hXd:j.mi.getD k zeroL=X:=by rw [List.getD_eq_getElem?_getD,hX.out];rfl
 have hYd:j.bare.getD k zeroL=Y:=by rw [List.getD_eq_getElem?_getD,hY.out];rfl
 rw [decide_eq_true t1,decide_eq_true t2,decide_eq_true t3,decide_eq_true t4,decide_eq_true t5,hXd,hYd] at hv
 have T1:=Lib.hid t1
 have T2:=Lib.hid t2
 have T3:=Lib.hid t3
 have T4:=Lib.hid t4
 have T5:=Lib.hid t5
 have hXd2:=Lib.hid hXd
 clear t1 t2 t3 t4 t5 hXd hYd hbl
 subst eA;subst eB
 obtain ⟨a0,a1,a2,a3,a4,a5⟩:=sa
 obtain ⟨q0,q1,q2,q3,q4,q5⟩:=sb
 cases hxy:X.eqB Y
 case false =>
  have Hv:Hid (v=false):=by show _=_;rw [hv,hxy];simp
  rw [hxy] at hne
  clear hv hxy
  go_quiet (fail)
  go_wp2_with fail
  go_ret
  exact ⟨ret_bool Hv.out.symm,bDrN hb2 nq⟩
 rw [hxy] at hne hv
 clear hxy
 have hv1:=Lib.hid hv
 clear hv
 go_quiet (fail)
 have BM3:Blk (w2.drewN nq) gm 47 _:=BM
 have BJ3:Blk (w2.drewN nq) W.heap.size 55 jc:=BJ2
 have BS3:Blk (w2.drewN nq) (W.heap.size+1) 86 s.cl.toArray:=BS2
 have hb3:=bDrN hb2 nq
 clear BM BJ2 BS2 hb2 y0' x0 x1 x2 x3 x4 a0 a1 a2 a3 a4 a5 q0 q1 q2 q3 q4 q5 hne
 generalize w2.drewN nq=w3 at *
 obtain ⟨s0,s1,s37,s73⟩:=stp_cells hs BS3
 have hv:=hv1.out
 clear hv1
 by_cases u1:s.at_=k
 case neg =>
  have Hv:Hid (v=false):=by show _=_;rw [hv,decide_eq_false u1];simp
  have g7:((s.at_:Int) != (k:Int))=true:=by rw [bne_iff_ne];exact u1
  clear hv u1
  go_wp2_with fail
  go_ret
  exact ⟨ret_bool Hv.out.symm,hb3⟩
 have g7:((s.at_:Int) != (k:Int))=false:=by rw [bne_eq_false_iff_eq];exact u1
 by_cases u2:s.left.at_=k
 case neg =>
  have Hv:Hid (v=false):=by show _=_;rw [hv,decide_eq_false u2];simp
  have g8:((s.left.at_:Int) != (k:Int))=true:=by rw [bne_iff_ne];exact u2
  clear hv u1 u2
  go_wp2_with fail
  go_ret
  exact ⟨ret_bool Hv.out.symm,hb3⟩
 have g8:((s.left.at_:Int) != (k:Int))=false:=by rw [bne_eq_false_iff_eq];exact u2
 rw [decide_eq_true u1,decide_eq_true u2] at hv
 have U2:=Lib.hid u2
 clear u1 u2
 by_cases u3:0≤s.mid
 case neg =>
  have Hv:Hid (v=false):=by show _=_;rw [hv,decide_eq_false u3];simp
  have g9:s.mid<0:=by omega
  clear hv u3
  go_wp2_with fail
  go_ret
  exact ⟨ret_bool Hv.out.symm,hb3⟩
 by_cases u4:s.mid<n
 case neg =>
  have Hv:Hid (v=false):=by show _=_;rw [hv,decide_eq_false u4];simp
  have g9:(n:Int)≤s.mid:=by omega
  clear hv u4
  go_wp2_with fail
  go_ret
  exact ⟨ret_bool Hv.out.symm,hb3⟩
 rw [decide_eq_true u3,decide_eq_true u4] at hv
 obtain ⟨m,hm⟩:∃ m:Nat,s.mid=m:=⟨s.mid.toNat,by omega⟩
 rw [hm] at s73 hv u3 u4
 have hmn:m<n:=by omega
 have hmt:((m:Nat):Int).toNat=m:=by omega
 rw [hmt] at hv
 have hM:=Lib.hid hm
 clear hm hmt u3
 obtain ⟨L1,L2⟩:=stp_loads hs BS3
 obtain ⟨x0,x1,x2,x3,x4⟩:=five BM3
 have hmm:m<j.mm.length:=by have:=T2.out;omega
 have hml:m<j.ml.length:=by have:=T4.out;omega
 have hmr:m<j.mr.length:=by have:=T5.out;omega
 obtain ⟨F0,hF0⟩:∃ F0,Hid (F0=fitsB rest (j.ml.getD m []) ⟨#[108,101,102,116]⟩ (j.mi.getD k zeroL) (j.mm.getD m zeroL) s.left):=⟨_,Lib.hid rfl⟩
 obtain ⟨F1,hF1⟩:∃ F1,Hid (F1=fitsB rest (j.mr.getD m []) ⟨#[114,105,103,104,116]⟩ (j.mm.getD m zeroL) (j.mo.getD s.right.at_.toNat zeroL) s.right):=⟨_,Lib.hid rfl⟩
 have qA:=ref_fits0 rest j s.left m k (some ⟨ba,oa,none⟩) A3 A4 A5 A6 c2 c3 c4 c5 c6 w3 ((r2.below hb3).more hb3.size) ((r3.below hb3).more hb3.size) ((r5.below hb3).more hb3.size) d5 hs.2.1 U2.out hki hki hmm hml
 rw [←hF0.out] at qA
 have qB:∀ w,Below W.heap.size W w→Calls Tryz.prog 111 #[.int .i64 rest,mixV (some ⟨ba,oa,none⟩) A3 A4 A5 A6 c2 c3 c4 c5 c6 j,.int .i64 (m:Nat),.int .i64 1,.agg s.right.cl.toArray] w (Ret (.bool (decide (0≤s.right.at_∧s.right.at_<n)&&F1)) w):=by
  intro w hw
  by_cases hr:0≤s.right.at_∧s.right.at_<n
  ·rw [decide_eq_true hr,hF1.out]
   have:=T1.out
   have:=T3.out
   exact ref_fits1 rest j s.right m s.right.at_.toNat (some ⟨ba,oa,none⟩) A3 A4 A5 A6 c2 c3 c4 c5 c6 w ((r3.below hw).more hw.size) ((r4.below hw).more hw.size) ((r6.below hw).more hw.size) d6 hs.2.2.1 (by omega) (by omega) hmm (by omega) hmr
  ·rw [decide_eq_false hr]
   have:=T1.out
   exact ref_fits1_out rest j s.right m (some ⟨ba,oa,none⟩) A3 A4 A5 A6 c2 c3 c4 c5 c6 w (by omega)
 have Hv:Hid (v=(F0&&(decide (0≤s.right.at_∧s.right.at_<n)&&F1))):=by
  show _=_
  rw [hv,hF0.out,hF1.out,hXd2.out];rfl
 generalize (decide (0≤s.right.at_∧s.right.at_<n)&&F1)=F2 at *
 clear hv hF0 hF1
 unfold mixV at qA qB
 go_upto_region 6 with fail
 apply wp_region_lit
 iterate 15 go_step
 refine wpList_loadG (by rfl) (by rfl) (by rfl) L1 ?_
 simp only [Act.put,List.setIfInBounds_toArray,List.set_cons_zero,List.set_cons_succ]
 cases F0
 case false =>
  have Hw:Hid (v=false):=Lib.hid (Hv.out.trans rfl)
  go_wp2_with fail
  (with_reducible refine qA.mono ?_)
  rintro e w4 ⟨rfl,b4⟩
  go_wp2_with fail
  go_ret
  exact ⟨ret_bool Hw.out.symm,bCall hb3 b4⟩
 case true =>
  have Hw:Hid (v=F2):=Lib.hid (Hv.out.trans rfl)
  go_wp2_with fail
  (with_reducible refine qA.mono ?_)
  rintro e w4 ⟨rfl,b4⟩
  have hb4:=bCall hb3 b4
  have BM4:=BM3.below b4 BM3.lt
  have BS4:=BS3.below b4 BS3.lt
  have qC:=qB w4 hb4
  clear qA qB x0 x1 x2 x3 x4 L1 L2 b4 hb3 BM3 BS3 BJ3 s0 s1 s37 s73
  obtain ⟨L1,L2⟩:=stp_loads hs BS4
  obtain ⟨x0,x1,x2,x3,x4⟩:=five BM4
  obtain ⟨-,-,-,s73'⟩:=stp_cells hs BS4
  have s73:w4.cell? ⟨W.heap.size+1,73,none⟩=some (.int .i64 (m:Nat)):=by rw [s73',hM.out]
  clear s73'
  dsimp only
  (refine ‹∀ (a:Act) (w:World),wpList _ _ _ _ a w→_› _ _ ?_)
  iterate 13 go_step
  refine wpList_loadG (by rfl) (by rfl) (by rfl) L2 ?_
  simp only [Act.put,List.setIfInBounds_toArray,List.set_cons_zero,List.set_cons_succ]
  go_wp2_with fail
  (with_reducible refine qC.mono ?_)
  rintro e w5 ⟨rfl,b5⟩
  go_wp2_with fail
  go_ret
  exact ⟨ret_bool Hw.out.symm,bCall hb4 b5⟩
end Go.Proofs.YtoeobcmmafncmaaGreatDoor

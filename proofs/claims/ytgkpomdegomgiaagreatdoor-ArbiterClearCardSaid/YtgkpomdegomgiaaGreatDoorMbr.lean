/- The reference's Fits, walked. -/
import Derived.Test.YtgkpomdegomgiaaGreatDoorMbp
import Derived.Test.YtgkpomdegomgiaaGreatDoorMbq
import Derived.Test.YtgkpomdegomgiaaGreatDoorMar
set_option maxRecDepth 1000000
set_option maxHeartbeats 16000000
namespace Go.Proofs.YtgkpomdegomgiaaGreatDoor
open Go.RowKit
def fitsB (key:Int) (d:List Nat) (side:ByteArray) (a b:Ltr) (o:Opn):Bool:=commitsB d side o&&b.eqB (againV key a o.r0 o.r1 o.r2)
theorem opn_load {w:World} {b:Nat} {o:Opn} (ho:o.ok) (B:Blk w b 95 o.cl.toArray):(Instr.loadAt 95 (.pointer (some ⟨b,0,none⟩))).run Tryz.prog w = .ok (.agg o.cl.toArray) w :=
  run_loadAt_mid _ b 0 95 o.cl _ (fun j v hj=>by rw [Nat.zero_add,B.cell];simpa using hj) Tryz.underlying95 rfl (by rw [Opn.cl_length' ho];exact opn_info')
theorem dig_load {w:World} {B n k:Nat} {A:Option Addr} {l:List (List Nat)} {d:List Nat} (h:Rd w B 32 A n (l.flatMap byts)) (ho:∀ d∈l,d.length=32∧okB d) (hk:k<n) (hd:l[k]?=some d) :
    ∃ b off,A=some ⟨b,off,none⟩∧b<B∧d.length=32∧∀ w',Below B w w'→(Instr.loadAt 43 (.pointer (some ⟨b,off+k*32,none⟩))).run Tryz.prog w' = .ok (.agg (byts d).toArray) w':=by
  obtain ⟨b,off,e,hb,h1,h2,hc⟩:=dig_at h ho hk hd
  refine ⟨b,off,e,hb,h1,fun w' hw=>?_⟩
  exact run_loadAt_mid _ b (off+k*32) 43 (byts d) _ (fun j v hj=>(hw.cell (p:=⟨b,off+k*32+j,none⟩) hb).trans (hc j v hj)) dig_under rfl (by rw [byts_length,h1];exact dig_info)
def mixV (A2 A3 A4 A5 A6:Option Addr) (c2 c3 c4 c5 c6:Nat) (j:Jb):Value := .agg #[.slice A2 j.mi.length c2,.slice A3 j.mm.length c3,.slice A4 j.mo.length c4,.slice A5 j.ml.length c5,.slice A6 j.mr.length c6]
theorem ref_fits0 (key:Int) (j:Jb) (o:Opn) (m k:Nat) (A2 A3 A4 A5 A6:Option Addr) (c2 c3 c4 c5 c6:Nat) (W:World) (hS:Rd W W.heap.size 6 A2 j.mi.length (j.mi.flatMap Ltr.cl)) (hC:Rd W W.heap.size 6 A3 j.mm.length (j.mm.flatMap Ltr.cl))
    (hD:Rd W W.heap.size 32 A5 j.ml.length (j.ml.flatMap byts)) (hDo:∀ d∈j.ml,d.length=32∧okB d) (ho:o.ok) (hat:o.at_=(k:Nat)) (hki:k<j.mi.length) (hks:k<j.mi.length) (hkc:m<j.mm.length) (hmd:m<j.ml.length) :
    Calls Tryz.prog 132 #[.int .i64 key,mixV A2 A3 A4 A5 A6 c2 c3 c4 c5 c6 j,.int .i64 (m:Nat),.int .i64 0,.agg o.cl.toArray] W (Ret (.bool (fitsB key (j.ml.getD m []) ⟨#[108,101,102,116]⟩ (j.mi.getD k zeroL) (j.mm.getD m zeroL) o)) W):=by
  unfold mixV
  obtain ⟨X,hX⟩:∃ X,Hid (j.mi[k]?=some X):=⟨_,Lib.hid (List.getElem?_eq_getElem hks)⟩
  obtain ⟨Y,hY⟩:∃ X,Hid (j.mm[m]?=some X):=⟨_,Lib.hid (List.getElem?_eq_getElem hkc)⟩
  obtain ⟨d,hd⟩:∃ X,Hid (j.ml[m]?=some X):=⟨_,Lib.hid (List.getElem?_eq_getElem hmd)⟩
  obtain ⟨v,hv⟩:∃ v,v=fitsB key d ⟨#[108,101,102,116]⟩ X Y o:=⟨_,rfl⟩
  rw [List.getD_eq_getElem?_getD,List.getD_eq_getElem?_getD,List.getD_eq_getElem?_getD,hX.out,hY.out,hd.out,Option.getD_some,Option.getD_some,Option.getD_some,←hv]
  unfold fitsB commitsB at hv
  obtain ⟨Z,hZ⟩:∃ Z,Hid (Z=againV key X o.r0 o.r1 o.r2):=⟨_,Lib.hid rfl⟩
  obtain ⟨T,hT⟩:∃ T,Hid (T=taggedN (sb ⟨#[108,101,102,116]⟩) (encN (o.its.map Nd.it))):=⟨_,Lib.hid rfl⟩
  have hTl:T.length=32:=by rw [hT.out,taggedN_len]
  rw [←hZ.out,←hT.out] at hv
  obtain ⟨er,her⟩:∃ er,Hid (er=againE key X):=⟨_,Lib.hid rfl⟩
  have qa:Hid (∀ w,Calls Tryz.prog 157 #[.int .i64 key,.agg #[.int .i64 X.a0,.int .i64 X.b0,.int .i64 X.a1,.int .i64 X.b1,.int .i64 X.a2,.int .i64 X.b2],.agg #[.int .i64 o.r0,.int .i64 o.r1,.int .i64 o.r2]] w (Ret (.tuple #[.agg #[.int .i64 Z.a0,.int .i64 Z.b0,.int .i64 Z.a1,.int .i64 Z.b1,.int .i64 Z.a2,.int .i64 Z.b2],.int .i64 er]) w)):=by
    intro w
    rw [hZ.out,her.out]
    exact ref_again key o.r0 o.r1 o.r2 X w
  have qc:=fun w=>ref_commit0 o w ho
  rw [←hT.out] at qc
  unfold dig at qc
  have BM:=(Blk.new W 53 #[.slice A2 j.mi.length c2,.slice A3 j.mm.length c3,.slice A4 j.mo.length c4,.slice A5 j.ml.length c5,.slice A6 j.mr.length c6] _ rfl).alloc (.cells o.cl.toArray 95)
  have BO:=Blk.new (W.alloc (.cells #[.slice A2 j.mi.length c2,.slice A3 j.mm.length c3,.slice A4 j.mo.length c4,.slice A5 j.ml.length c5,.slice A6 j.mr.length c6] 53)) 95 o.cl.toArray (W.heap.size+1) (by simp)
  have hb:=bAl (bAl (bRefl W) (.cells #[.slice A2 j.mi.length c2,.slice A3 j.mm.length c3,.slice A4 j.mo.length c4,.slice A5 j.ml.length c5,.slice A6 j.mr.length c6] 53)) (.cells o.cl.toArray 95)
  obtain ⟨bs,os,eS,hbs,sS⟩:=SixAt.of hS hks hX.out
  obtain ⟨bc,oc,eC,hbc,sC⟩:=SixAt.of hC hkc hY.out
  obtain ⟨bd,od,eD,hbd,hdl,lD⟩:=dig_load hD hDo hmd hd.out
  subst eS;subst eC;subst eD
  clear hS hC hD hDo hX hY hd hZ hT her
  go_enter Tryz.func132,Tryz.ntmps132
  go_upto_region 1 with fail
  generalize (W.alloc (.cells #[.slice (some ⟨bs,os,none⟩) j.mi.length c2,.slice (some ⟨bc,oc,none⟩) j.mm.length c3,.slice A4 j.mo.length c4,.slice (some ⟨bd,od,none⟩) j.ml.length c5,.slice A6 j.mr.length c6] 53)).alloc (.cells o.cl.toArray 95)=w1 at *
  have m0:w1.cell? ⟨W.heap.size,0,none⟩=some (.slice (some ⟨bs,os,none⟩) j.mi.length c2):=BM.cell 0
  have o0:w1.cell? ⟨W.heap.size+1,0,none⟩=some (.int .i64 (k:Nat)):=by rw [←hat];exact BO.cell 0
  have f0:(0:Int)≤(k:Int):=by omega
  have f1:(k:Int)<(j.mi.length:Int):=by omega
  have f2:(0:Int)≤(m:Int):=by omega
  have f3:(k:Int)<(j.mi.length:Int):=by omega
  have f4:(m:Int)<(j.mm.length:Int):=by omega
  have f5:(m:Int)<(j.ml.length:Int):=by omega
  have f6:decide (j.mi.length≤k)=false:=by rw [decide_eq_false];omega
  have f7:decide ((k:Int)<0)=false:=by rw [decide_eq_false];omega
  have hws:=hb.size
  go_upto_region 4 with fail
  clear m0 o0
  have KS:Hid (∀ w',Below w1.heap.size w1 w'→(w'.cell? ⟨bs,os+k*6,none⟩=some (.int .i64 X.a0)∧w'.cell? ⟨bs,os+k*6+1,none⟩=some (.int .i64 X.b0)∧w'.cell? ⟨bs,os+k*6+2,none⟩=some (.int .i64 X.a1)∧w'.cell? ⟨bs,os+k*6+3,none⟩=some (.int .i64 X.b1)∧w'.cell? ⟨bs,os+k*6+4,none⟩=some (.int .i64 X.a2)∧w'.cell? ⟨bs,os+k*6+5,none⟩=some (.int .i64 X.b2))∧w'.cell? ⟨W.heap.size,0,none⟩=some (.slice (some ⟨bs,os,none⟩) j.mi.length c2)∧w'.cell? ⟨W.heap.size+1,0,none⟩=some (.int .i64 (k:Nat))∧w'.cell? ⟨W.heap.size+1,1,none⟩=some (.int .i64 o.r0)∧w'.cell? ⟨W.heap.size+1,2,none⟩=some (.int .i64 o.r1)∧w'.cell? ⟨W.heap.size+1,3,none⟩=some (.int .i64 o.r2)):=Lib.hid (fun w' h=>⟨SixAt.below sS hbs ((hb.trans (h.mono hb.size))),(BM.below h BM.lt).cell 0,by rw [←hat];exact (BO.below h BO.lt).cell 0,(BO.below h BO.lt).cell 1,(BO.below h BO.lt).cell 2,(BO.below h BO.lt).cell 3⟩)
  go_cut [11,12] from 28 (fun s9 s10 wc=>∃ lb,s9 = .pointer (some ⟨lb,0,none⟩)∧s10 = .int .i64 er∧Blk wc lb 70 Z.cells∧Below w1.heap.size w1 wc)
  case first =>
    clear hv
    go_region_held3 (fun w'=>(w'.cell? ⟨bs,os+k*6,none⟩=some (.int .i64 X.a0)∧w'.cell? ⟨bs,os+k*6+1,none⟩=some (.int .i64 X.b0)∧w'.cell? ⟨bs,os+k*6+2,none⟩=some (.int .i64 X.a1)∧w'.cell? ⟨bs,os+k*6+3,none⟩=some (.int .i64 X.b1)∧w'.cell? ⟨bs,os+k*6+4,none⟩=some (.int .i64 X.a2)∧w'.cell? ⟨bs,os+k*6+5,none⟩=some (.int .i64 X.b2))∧w'.cell? ⟨W.heap.size,0,none⟩=some (.slice (some ⟨bs,os,none⟩) j.mi.length c2)∧w'.cell? ⟨W.heap.size+1,0,none⟩=some (.int .i64 (k:Nat))∧w'.cell? ⟨W.heap.size+1,1,none⟩=some (.int .i64 o.r0)∧w'.cell? ⟨W.heap.size+1,2,none⟩=some (.int .i64 o.r1)∧w'.cell? ⟨W.heap.size+1,3,none⟩=some (.int .i64 o.r2))
      (exact KS.out _ (by repeat (first | with_reducible exact B7 | with_reducible exact bRefl _ | with_reducible refine bAl ?_ _ | with_reducible refine bDr ?_ | with_reducible refine bSet ?_ (by exact Nat.le_refl _) _)))
      (first
      | (go_simp;go_at_call 157;(with_reducible refine (qa.out _).mono ?_);rintro e w7 ⟨rfl,b7⟩;have B7:Below w1.heap.size w1 w7:=bCall (by repeat (first | exact bRefl _ | refine bAl ?_ _ | refine bDr ?_)) b7;(try (have BZ:Blk w7 w1.heap.size 70 #[.int .i64 0,.int .i64 0,.int .i64 0,.int .i64 0,.int .i64 0,.int .i64 0]:=Blk.below (by first | exact Blk.new _ _ _ _ rfl | exact Blk.dr (Blk.new _ _ _ _ rfl)) b7 (by simp);obtain ⟨k0,k1,k2,k3,k4,k5⟩:=BZ.six;obtain ⟨z0,z1,z2,z3,z4,z5⟩:=BZ.six_free))))
    all_goals
      go_wp2_with fail
      go_meet
      first
        | (with_reducible refine ⟨_,rfl,rfl,Blk.new _ _ _ _ rfl,bAl B7 _⟩;done)
        | exact ⟨_,rfl,rfl,BZ.set6 (.int .i64 Z.a0) (.int .i64 Z.b0) (.int .i64 Z.a1) (.int .i64 Z.b1) (.int .i64 Z.a2) (.int .i64 Z.b2),bSet6 B7 (Nat.le_refl _) (.int .i64 Z.a0) (.int .i64 Z.b0) (.int .i64 Z.a1) (.int .i64 Z.b1) (.int .i64 Z.a2) (.int .i64 Z.b2)⟩
  case rest =>
    obtain ⟨lb,rfl,rfl,BZ,b8⟩:=hcut
    have hb8:=bCall hb b8
    have BM8:=BM.below b8 BM.lt
    have BO8:=BO.below b8 BO.lt
    have hWw:W.heap.size≤wc.heap.size:=hb8.size
    clear KS qa BM BO
    have q:=fun w=>qc w
    have hq:=run_eqD d T hdl hTl
    have hz:=run_eqS Y Z
    unfold Ltr.agg at hz
    have KS:Hid (∀ w',Below wc.heap.size wc w'→(Instr.loadAt 43 (.pointer (some ⟨bd,od+m*32,none⟩))).run Tryz.prog w' = .ok (.agg (byts d).toArray) w'∧(Instr.loadAt 95 (.pointer (some ⟨W.heap.size+1,0,none⟩))).run Tryz.prog w' = .ok (.agg o.cl.toArray) w'∧w'.cell? ⟨W.heap.size,3,none⟩=some (.slice (some ⟨bd,od,none⟩) j.ml.length c5)∧w'.cell? ⟨W.heap.size,1,none⟩=some (.slice (some ⟨bc,oc,none⟩) j.mm.length c3)∧(w'.cell? ⟨bc,oc+m*6,none⟩=some (.int .i64 Y.a0)∧w'.cell? ⟨bc,oc+m*6+1,none⟩=some (.int .i64 Y.b0)∧w'.cell? ⟨bc,oc+m*6+2,none⟩=some (.int .i64 Y.a1)∧w'.cell? ⟨bc,oc+m*6+3,none⟩=some (.int .i64 Y.b1)∧w'.cell? ⟨bc,oc+m*6+4,none⟩=some (.int .i64 Y.a2)∧w'.cell? ⟨bc,oc+m*6+5,none⟩=some (.int .i64 Y.b2))∧(w'.cell? ⟨lb,0,none⟩=some (.int .i64 Z.a0)∧w'.cell? ⟨lb,1,none⟩=some (.int .i64 Z.b0)∧w'.cell? ⟨lb,2,none⟩=some (.int .i64 Z.a1)∧w'.cell? ⟨lb,3,none⟩=some (.int .i64 Z.b1)∧w'.cell? ⟨lb,4,none⟩=some (.int .i64 Z.a2)∧w'.cell? ⟨lb,5,none⟩=some (.int .i64 Z.b2))):=Lib.hid (fun w' h=>⟨lD w' (hb8.trans (h.mono hb8.size)),opn_load ho (BO8.below h BO8.lt),(BM8.below h BM8.lt).cell 3,(BM8.below h BM8.lt).cell 1,SixAt.below sC hbc (hb8.trans (h.mono hb8.size)),six_of (BZ.below h BZ.lt)⟩)
    clear lD sS sC hb b8
    cases hdT:decide (d=T)
    case false =>
      have Hv:Hid (v=false):=by show _=_;rw [hv,hdT];rfl
      rw [hdT] at hq
      clear hv hdT hz
      go_upto_region 5 with fail
      refine wp_region_schB (f:=17) KS [(0,1),(1,2),(2,1),(3,1),(4,2),(5,2),(6,0),(7,1),(8,1),(9,1),(10,1),(11,1),(12,1),(13,1),(14,1),(15,1),(16,1),(17,3)] ?_
      simp only [pickS,List.getElem?_cons_zero,List.getElem?_cons_succ]
      refine wpSched_t ?_
      refine wpSched_r ?_
      refine wpSched_t ?_
      refine wpSched_t ?_
      refine wpSched_r (v:=?v1) (hv:=?h1) ?_;case h1=>(intro w hSw;(first | refine (exec_load rfl rfl hSw).trans ?_ | refine (exec_load rfl rfl hSw.1).trans ?_ | refine (exec_load rfl rfl hSw.2.1).trans ?_ | refine (exec_load rfl rfl hSw.2.2.1).trans ?_ | refine (exec_load rfl rfl hSw.2).trans ?_ | refine (exec_load rfl rfl hSw.2.2).trans ?_);with_reducible rfl)
      refine wpSched_r (v:=?v2) (hv:=?h2) ?_;case h2=>(intro w hSw;(first | refine (exec_load rfl rfl hSw).trans ?_ | refine (exec_load rfl rfl hSw.1).trans ?_ | refine (exec_load rfl rfl hSw.2.1).trans ?_ | refine (exec_load rfl rfl hSw.2.2.1).trans ?_ | refine (exec_load rfl rfl hSw.2).trans ?_ | refine (exec_load rfl rfl hSw.2.2).trans ?_);with_reducible rfl)
      refine wpSched_force (fun K hK=>?_)
      go_simp;(first | (go_at_call 158;(with_reducible refine (q _).mono ?_);rintro e w9 ⟨rfl,b9⟩;have B7:Below wc.heap.size wc w9:=bCall (bDr (bRefl _)) b9) | skip)
      refine shut_go hK KS ?_
      clear hK K
      refine wpSched_t ?_
      refine wpSched_t ?_
      refine wpSched_p ?_
      refine wpSched_p ?_
      refine wpSched_p ?_
      refine wpSched_p ?_
      refine wpSched_p ?_
      refine wpSched_p ?_
      refine wpSched_p ?_
      refine wpSched_t ?_
      refine wpSched_last ?_
      first | simp only [List.map_nil] | simp only [List.map_cons,List.map_nil]
      go_wp2_with fail
      refine NoPanic.normal ?_
      go_wp2_with fail
      go_ret
      exact ⟨ret_bool Hv.out.symm,bCall hb8 B7⟩
    case true =>
      have Hv:Hid (v=Y.eqB Z):=by show _=_;rw [hv,hdT];rfl
      rw [hdT] at hq
      clear hv hdT
      go_upto_region 5 with fail
      refine wp_region_schB (f:=17) KS [(0,1),(1,2),(2,1),(3,1),(4,2),(5,2),(6,0),(7,1),(8,1),(9,1),(10,2),(11,1),(12,1),(13,2),(14,2),(15,1),(16,1),(17,3)] ?_
      simp only [pickS,List.getElem?_cons_zero,List.getElem?_cons_succ]
      refine wpSched_t ?_
      refine wpSched_r ?_
      refine wpSched_t ?_
      refine wpSched_t ?_
      refine wpSched_r (v:=?v3) (hv:=?h3) ?_;case h3=>(intro w hSw;(first | refine (exec_load rfl rfl hSw).trans ?_ | refine (exec_load rfl rfl hSw.1).trans ?_ | refine (exec_load rfl rfl hSw.2.1).trans ?_ | refine (exec_load rfl rfl hSw.2.2.1).trans ?_ | refine (exec_load rfl rfl hSw.2).trans ?_ | refine (exec_load rfl rfl hSw.2.2).trans ?_);with_reducible rfl)
      refine wpSched_r (v:=?v4) (hv:=?h4) ?_;case h4=>(intro w hSw;(first | refine (exec_load rfl rfl hSw).trans ?_ | refine (exec_load rfl rfl hSw.1).trans ?_ | refine (exec_load rfl rfl hSw.2.1).trans ?_ | refine (exec_load rfl rfl hSw.2.2.1).trans ?_ | refine (exec_load rfl rfl hSw.2).trans ?_ | refine (exec_load rfl rfl hSw.2.2).trans ?_);with_reducible rfl)
      refine wpSched_force (fun K hK=>?_)
      go_simp;(first | (go_at_call 158;(with_reducible refine (q _).mono ?_);rintro e w9 ⟨rfl,b9⟩;have B7:Below wc.heap.size wc w9:=bCall (bDr (bRefl _)) b9) | skip)
      refine shut_go hK KS ?_
      clear hK K
      refine wpSched_t ?_
      refine wpSched_t ?_
      refine wpSched_t ?_
      refine wpSched_r ?_
      refine wpSched_t ?_
      refine wpSched_t ?_
      refine wpSched_r ?_
      refine wpSched_r ?_
      refine wpSched_t ?_
      refine wpSched_t ?_
      refine wpSched_last ?_
      first | simp only [List.map_nil] | simp only [List.map_cons,List.map_nil]
      go_wp2_with fail
      refine NoPanic.normal ?_
      go_wp2_with fail
      go_ret
      exact ⟨ret_bool Hv.out.symm,bCall hb8 B7⟩
theorem ref_fits1 (key:Int) (j:Jb) (o:Opn) (m k:Nat) (A2 A3 A4 A5 A6:Option Addr) (c2 c3 c4 c5 c6:Nat) (W:World) (hS:Rd W W.heap.size 6 A3 j.mm.length (j.mm.flatMap Ltr.cl)) (hC:Rd W W.heap.size 6 A4 j.mo.length (j.mo.flatMap Ltr.cl))
    (hD:Rd W W.heap.size 32 A6 j.mr.length (j.mr.flatMap byts)) (hDo:∀ d∈j.mr,d.length=32∧okB d) (ho:o.ok) (hat:o.at_=(k:Nat)) (hki:k<j.mi.length) (hks:m<j.mm.length) (hkc:k<j.mo.length) (hmd:m<j.mr.length) :
    Calls Tryz.prog 132 #[.int .i64 key,mixV A2 A3 A4 A5 A6 c2 c3 c4 c5 c6 j,.int .i64 (m:Nat),.int .i64 1,.agg o.cl.toArray] W (Ret (.bool (fitsB key (j.mr.getD m []) ⟨#[114,105,103,104,116]⟩ (j.mm.getD m zeroL) (j.mo.getD k zeroL) o)) W):=by
  unfold mixV
  obtain ⟨X,hX⟩:∃ X,Hid (j.mm[m]?=some X):=⟨_,Lib.hid (List.getElem?_eq_getElem hks)⟩
  obtain ⟨Y,hY⟩:∃ X,Hid (j.mo[k]?=some X):=⟨_,Lib.hid (List.getElem?_eq_getElem hkc)⟩
  obtain ⟨d,hd⟩:∃ X,Hid (j.mr[m]?=some X):=⟨_,Lib.hid (List.getElem?_eq_getElem hmd)⟩
  obtain ⟨v,hv⟩:∃ v,v=fitsB key d ⟨#[114,105,103,104,116]⟩ X Y o:=⟨_,rfl⟩
  rw [List.getD_eq_getElem?_getD,List.getD_eq_getElem?_getD,List.getD_eq_getElem?_getD,hX.out,hY.out,hd.out,Option.getD_some,Option.getD_some,Option.getD_some,←hv]
  unfold fitsB commitsB at hv
  obtain ⟨Z,hZ⟩:∃ Z,Hid (Z=againV key X o.r0 o.r1 o.r2):=⟨_,Lib.hid rfl⟩
  obtain ⟨T,hT⟩:∃ T,Hid (T=taggedN (sb ⟨#[114,105,103,104,116]⟩) (encN (o.its.map Nd.it))):=⟨_,Lib.hid rfl⟩
  have hTl:T.length=32:=by rw [hT.out,taggedN_len]
  rw [←hZ.out,←hT.out] at hv
  obtain ⟨er,her⟩:∃ er,Hid (er=againE key X):=⟨_,Lib.hid rfl⟩
  have qa:Hid (∀ w,Calls Tryz.prog 157 #[.int .i64 key,.agg #[.int .i64 X.a0,.int .i64 X.b0,.int .i64 X.a1,.int .i64 X.b1,.int .i64 X.a2,.int .i64 X.b2],.agg #[.int .i64 o.r0,.int .i64 o.r1,.int .i64 o.r2]] w (Ret (.tuple #[.agg #[.int .i64 Z.a0,.int .i64 Z.b0,.int .i64 Z.a1,.int .i64 Z.b1,.int .i64 Z.a2,.int .i64 Z.b2],.int .i64 er]) w)):=by
    intro w
    rw [hZ.out,her.out]
    exact ref_again key o.r0 o.r1 o.r2 X w
  have qc:=fun w=>ref_commit1 o w ho
  rw [←hT.out] at qc
  unfold dig at qc
  have BM:=(Blk.new W 53 #[.slice A2 j.mi.length c2,.slice A3 j.mm.length c3,.slice A4 j.mo.length c4,.slice A5 j.ml.length c5,.slice A6 j.mr.length c6] _ rfl).alloc (.cells o.cl.toArray 95)
  have BO:=Blk.new (W.alloc (.cells #[.slice A2 j.mi.length c2,.slice A3 j.mm.length c3,.slice A4 j.mo.length c4,.slice A5 j.ml.length c5,.slice A6 j.mr.length c6] 53)) 95 o.cl.toArray (W.heap.size+1) (by simp)
  have hb:=bAl (bAl (bRefl W) (.cells #[.slice A2 j.mi.length c2,.slice A3 j.mm.length c3,.slice A4 j.mo.length c4,.slice A5 j.ml.length c5,.slice A6 j.mr.length c6] 53)) (.cells o.cl.toArray 95)
  obtain ⟨bs,os,eS,hbs,sS⟩:=SixAt.of hS hks hX.out
  obtain ⟨bc,oc,eC,hbc,sC⟩:=SixAt.of hC hkc hY.out
  obtain ⟨bd,od,eD,hbd,hdl,lD⟩:=dig_load hD hDo hmd hd.out
  subst eS;subst eC;subst eD
  clear hS hC hD hDo hX hY hd hZ hT her
  go_enter Tryz.func132,Tryz.ntmps132
  go_upto_region 1 with fail
  generalize (W.alloc (.cells #[.slice A2 j.mi.length c2,.slice (some ⟨bs,os,none⟩) j.mm.length c3,.slice (some ⟨bc,oc,none⟩) j.mo.length c4,.slice A5 j.ml.length c5,.slice (some ⟨bd,od,none⟩) j.mr.length c6] 53)).alloc (.cells o.cl.toArray 95)=w1 at *
  have m0:w1.cell? ⟨W.heap.size,0,none⟩=some (.slice A2 j.mi.length c2):=BM.cell 0
  have o0:w1.cell? ⟨W.heap.size+1,0,none⟩=some (.int .i64 (k:Nat)):=by rw [←hat];exact BO.cell 0
  have f0:(0:Int)≤(k:Int):=by omega
  have f1:(k:Int)<(j.mi.length:Int):=by omega
  have f2:(0:Int)≤(m:Int):=by omega
  have f3:(m:Int)<(j.mm.length:Int):=by omega
  have f4:(k:Int)<(j.mo.length:Int):=by omega
  have f5:(m:Int)<(j.mr.length:Int):=by omega
  have f6:decide (j.mi.length≤k)=false:=by rw [decide_eq_false];omega
  have f7:decide ((k:Int)<0)=false:=by rw [decide_eq_false];omega
  have hws:=hb.size
  go_upto_region 6 with fail
  clear m0 o0
  have KS:Hid (∀ w',Below w1.heap.size w1 w'→(w'.cell? ⟨bs,os+m*6,none⟩=some (.int .i64 X.a0)∧w'.cell? ⟨bs,os+m*6+1,none⟩=some (.int .i64 X.b0)∧w'.cell? ⟨bs,os+m*6+2,none⟩=some (.int .i64 X.a1)∧w'.cell? ⟨bs,os+m*6+3,none⟩=some (.int .i64 X.b1)∧w'.cell? ⟨bs,os+m*6+4,none⟩=some (.int .i64 X.a2)∧w'.cell? ⟨bs,os+m*6+5,none⟩=some (.int .i64 X.b2))∧w'.cell? ⟨W.heap.size,1,none⟩=some (.slice (some ⟨bs,os,none⟩) j.mm.length c3)∧w'.cell? ⟨W.heap.size+1,0,none⟩=some (.int .i64 (k:Nat))∧w'.cell? ⟨W.heap.size+1,1,none⟩=some (.int .i64 o.r0)∧w'.cell? ⟨W.heap.size+1,2,none⟩=some (.int .i64 o.r1)∧w'.cell? ⟨W.heap.size+1,3,none⟩=some (.int .i64 o.r2)):=Lib.hid (fun w' h=>⟨SixAt.below sS hbs ((hb.trans (h.mono hb.size))),(BM.below h BM.lt).cell 1,by rw [←hat];exact (BO.below h BO.lt).cell 0,(BO.below h BO.lt).cell 1,(BO.below h BO.lt).cell 2,(BO.below h BO.lt).cell 3⟩)
  go_cut [13,14] from 58 (fun s9 s10 wc=>∃ lb,s9 = .pointer (some ⟨lb,0,none⟩)∧s10 = .int .i64 er∧Blk wc lb 70 Z.cells∧Below w1.heap.size w1 wc)
  case first =>
    clear hv
    go_region_held3 (fun w'=>(w'.cell? ⟨bs,os+m*6,none⟩=some (.int .i64 X.a0)∧w'.cell? ⟨bs,os+m*6+1,none⟩=some (.int .i64 X.b0)∧w'.cell? ⟨bs,os+m*6+2,none⟩=some (.int .i64 X.a1)∧w'.cell? ⟨bs,os+m*6+3,none⟩=some (.int .i64 X.b1)∧w'.cell? ⟨bs,os+m*6+4,none⟩=some (.int .i64 X.a2)∧w'.cell? ⟨bs,os+m*6+5,none⟩=some (.int .i64 X.b2))∧w'.cell? ⟨W.heap.size,1,none⟩=some (.slice (some ⟨bs,os,none⟩) j.mm.length c3)∧w'.cell? ⟨W.heap.size+1,0,none⟩=some (.int .i64 (k:Nat))∧w'.cell? ⟨W.heap.size+1,1,none⟩=some (.int .i64 o.r0)∧w'.cell? ⟨W.heap.size+1,2,none⟩=some (.int .i64 o.r1)∧w'.cell? ⟨W.heap.size+1,3,none⟩=some (.int .i64 o.r2))
      (exact KS.out _ (by repeat (first | with_reducible exact B7 | with_reducible exact bRefl _ | with_reducible refine bAl ?_ _ | with_reducible refine bDr ?_ | with_reducible refine bSet ?_ (by exact Nat.le_refl _) _)))
      (first
      | (go_simp;go_at_call 157;(with_reducible refine (qa.out _).mono ?_);rintro e w7 ⟨rfl,b7⟩;have B7:Below w1.heap.size w1 w7:=bCall (by repeat (first | exact bRefl _ | refine bAl ?_ _ | refine bDr ?_)) b7;(try (have BZ:Blk w7 w1.heap.size 70 #[.int .i64 0,.int .i64 0,.int .i64 0,.int .i64 0,.int .i64 0,.int .i64 0]:=Blk.below (by first | exact Blk.new _ _ _ _ rfl | exact Blk.dr (Blk.new _ _ _ _ rfl)) b7 (by simp);obtain ⟨k0,k1,k2,k3,k4,k5⟩:=BZ.six;obtain ⟨z0,z1,z2,z3,z4,z5⟩:=BZ.six_free))))
    all_goals
      go_wp2_with fail
      go_meet
      first
        | (with_reducible refine ⟨_,rfl,rfl,Blk.new _ _ _ _ rfl,bAl B7 _⟩;done)
        | exact ⟨_,rfl,rfl,BZ.set6 (.int .i64 Z.a0) (.int .i64 Z.b0) (.int .i64 Z.a1) (.int .i64 Z.b1) (.int .i64 Z.a2) (.int .i64 Z.b2),bSet6 B7 (Nat.le_refl _) (.int .i64 Z.a0) (.int .i64 Z.b0) (.int .i64 Z.a1) (.int .i64 Z.b1) (.int .i64 Z.a2) (.int .i64 Z.b2)⟩
  case rest =>
    obtain ⟨lb,rfl,rfl,BZ,b8⟩:=hcut
    have hb8:=bCall hb b8
    have BM8:=BM.below b8 BM.lt
    have BO8:=BO.below b8 BO.lt
    have hWw:W.heap.size≤wc.heap.size:=hb8.size
    clear KS qa BM BO
    have q:=fun w=>qc w
    have hq:=run_eqD d T hdl hTl
    have hz:=run_eqS Y Z
    unfold Ltr.agg at hz
    have KS:Hid (∀ w',Below wc.heap.size wc w'→(Instr.loadAt 43 (.pointer (some ⟨bd,od+m*32,none⟩))).run Tryz.prog w' = .ok (.agg (byts d).toArray) w'∧(Instr.loadAt 95 (.pointer (some ⟨W.heap.size+1,0,none⟩))).run Tryz.prog w' = .ok (.agg o.cl.toArray) w'∧w'.cell? ⟨W.heap.size,4,none⟩=some (.slice (some ⟨bd,od,none⟩) j.mr.length c6)∧w'.cell? ⟨W.heap.size,2,none⟩=some (.slice (some ⟨bc,oc,none⟩) j.mo.length c4)∧(w'.cell? ⟨bc,oc+k*6,none⟩=some (.int .i64 Y.a0)∧w'.cell? ⟨bc,oc+k*6+1,none⟩=some (.int .i64 Y.b0)∧w'.cell? ⟨bc,oc+k*6+2,none⟩=some (.int .i64 Y.a1)∧w'.cell? ⟨bc,oc+k*6+3,none⟩=some (.int .i64 Y.b1)∧w'.cell? ⟨bc,oc+k*6+4,none⟩=some (.int .i64 Y.a2)∧w'.cell? ⟨bc,oc+k*6+5,none⟩=some (.int .i64 Y.b2))∧(w'.cell? ⟨lb,0,none⟩=some (.int .i64 Z.a0)∧w'.cell? ⟨lb,1,none⟩=some (.int .i64 Z.b0)∧w'.cell? ⟨lb,2,none⟩=some (.int .i64 Z.a1)∧w'.cell? ⟨lb,3,none⟩=some (.int .i64 Z.b1)∧w'.cell? ⟨lb,4,none⟩=some (.int .i64 Z.a2)∧w'.cell? ⟨lb,5,none⟩=some (.int .i64 Z.b2))∧w'.cell? ⟨W.heap.size+1,0,none⟩=some (.int .i64 (k:Nat))):=Lib.hid (fun w' h=>⟨lD w' (hb8.trans (h.mono hb8.size)),opn_load ho (BO8.below h BO8.lt),(BM8.below h BM8.lt).cell 4,(BM8.below h BM8.lt).cell 2,SixAt.below sC hbc (hb8.trans (h.mono hb8.size)),six_of (BZ.below h BZ.lt),by rw [←hat];exact (BO8.below h BO8.lt).cell 0⟩)
    clear lD sS sC hb b8
    cases hdT:decide (d=T)
    case false =>
      have Hv:Hid (v=false):=by show _=_;rw [hv,hdT];rfl
      rw [hdT] at hq
      clear hv hdT hz
      go_upto_region 7 with fail
      refine wp_region_schB (f:=18) KS [(0,1),(1,2),(2,1),(3,1),(4,2),(5,2),(6,0),(7,1),(8,1),(9,1),(10,1),(11,1),(12,1),(13,1),(14,1),(15,1),(16,1),(17,1),(18,3)] ?_
      simp only [pickS,List.getElem?_cons_zero,List.getElem?_cons_succ]
      refine wpSched_t ?_
      refine wpSched_r ?_
      refine wpSched_t ?_
      refine wpSched_t ?_
      refine wpSched_r (v:=?v5) (hv:=?h5) ?_;case h5=>(intro w hSw;(first | refine (exec_load rfl rfl hSw).trans ?_ | refine (exec_load rfl rfl hSw.1).trans ?_ | refine (exec_load rfl rfl hSw.2.1).trans ?_ | refine (exec_load rfl rfl hSw.2.2.1).trans ?_ | refine (exec_load rfl rfl hSw.2).trans ?_ | refine (exec_load rfl rfl hSw.2.2).trans ?_);with_reducible rfl)
      refine wpSched_r (v:=?v6) (hv:=?h6) ?_;case h6=>(intro w hSw;(first | refine (exec_load rfl rfl hSw).trans ?_ | refine (exec_load rfl rfl hSw.1).trans ?_ | refine (exec_load rfl rfl hSw.2.1).trans ?_ | refine (exec_load rfl rfl hSw.2.2.1).trans ?_ | refine (exec_load rfl rfl hSw.2).trans ?_ | refine (exec_load rfl rfl hSw.2.2).trans ?_);with_reducible rfl)
      refine wpSched_force (fun K hK=>?_)
      go_simp;(first | (go_at_call 158;(with_reducible refine (q _).mono ?_);rintro e w9 ⟨rfl,b9⟩;have B7:Below wc.heap.size wc w9:=bCall (bDr (bRefl _)) b9) | skip)
      refine shut_go hK KS ?_
      clear hK K
      refine wpSched_t ?_
      refine wpSched_t ?_
      refine wpSched_p ?_
      refine wpSched_p ?_
      refine wpSched_p ?_
      refine wpSched_p ?_
      refine wpSched_p ?_
      refine wpSched_p ?_
      refine wpSched_p ?_
      refine wpSched_p ?_
      refine wpSched_t ?_
      refine wpSched_last ?_
      first | simp only [List.map_nil] | simp only [List.map_cons,List.map_nil]
      go_wp2_with fail
      refine NoPanic.normal ?_
      go_wp2_with fail
      go_ret
      exact ⟨ret_bool Hv.out.symm,bCall hb8 B7⟩
    case true =>
      have Hv:Hid (v=Y.eqB Z):=by show _=_;rw [hv,hdT];rfl
      rw [hdT] at hq
      clear hv hdT
      go_upto_region 7 with fail
      refine wp_region_schB (f:=18) KS [(0,1),(1,2),(2,1),(3,1),(4,2),(5,2),(6,0),(7,1),(8,1),(9,1),(10,2),(11,1),(12,2),(13,1),(14,2),(15,2),(16,1),(17,1),(18,3)] ?_
      simp only [pickS,List.getElem?_cons_zero,List.getElem?_cons_succ]
      refine wpSched_t ?_
      refine wpSched_r ?_
      refine wpSched_t ?_
      refine wpSched_t ?_
      refine wpSched_r (v:=?v7) (hv:=?h7) ?_;case h7=>(intro w hSw;(first | refine (exec_load rfl rfl hSw).trans ?_ | refine (exec_load rfl rfl hSw.1).trans ?_ | refine (exec_load rfl rfl hSw.2.1).trans ?_ | refine (exec_load rfl rfl hSw.2.2.1).trans ?_ | refine (exec_load rfl rfl hSw.2).trans ?_ | refine (exec_load rfl rfl hSw.2.2).trans ?_);with_reducible rfl)
      refine wpSched_r (v:=?v8) (hv:=?h8) ?_;case h8=>(intro w hSw;(first | refine (exec_load rfl rfl hSw).trans ?_ | refine (exec_load rfl rfl hSw.1).trans ?_ | refine (exec_load rfl rfl hSw.2.1).trans ?_ | refine (exec_load rfl rfl hSw.2.2.1).trans ?_ | refine (exec_load rfl rfl hSw.2).trans ?_ | refine (exec_load rfl rfl hSw.2.2).trans ?_);with_reducible rfl)
      refine wpSched_force (fun K hK=>?_)
      go_simp;(first | (go_at_call 158;(with_reducible refine (q _).mono ?_);rintro e w9 ⟨rfl,b9⟩;have B7:Below wc.heap.size wc w9:=bCall (bDr (bRefl _)) b9) | skip)
      refine shut_go hK KS ?_
      clear hK K
      refine wpSched_t ?_
      refine wpSched_t ?_
      refine wpSched_t ?_
      refine wpSched_r ?_
      refine wpSched_t ?_
      refine wpSched_r ?_
      refine wpSched_t ?_
      refine wpSched_r ?_
      refine wpSched_r ?_
      refine wpSched_t ?_
      refine wpSched_t ?_
      refine wpSched_last ?_
      first | simp only [List.map_nil] | simp only [List.map_cons,List.map_nil]
      go_wp2_with fail
      refine NoPanic.normal ?_
      go_wp2_with fail
      go_ret
      exact ⟨ret_bool Hv.out.symm,bCall hb8 B7⟩
end Go.Proofs.YtgkpomdegomgiaaGreatDoor

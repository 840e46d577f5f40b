/- paths.commits, walked. -/
import Derived.Test.YtgkpomdegomgiaaGreatDoorMas
import Derived.Deep.MidRow
set_option maxRecDepth 1000000
set_option maxHeartbeats 16000000
namespace Go.Proofs.YtgkpomdegomgiaaGreatDoor
open Go.RowKit
structure Opn where
  at_:Int
  r0:Int
  r1:Int
  r2:Int
  salt:List Nat
def Opn.cl (o:Opn):List Value:=[.int .i64 o.at_,.int .i64 o.r0,.int .i64 o.r1,.int .i64 o.r2]++byts o.salt
def Opn.its (o:Opn):List Nd:=[.int o.at_,.int o.r0,.int o.r1,.int o.r2,.dig o.salt]
def Opn.ok (o:Opn):Prop:=inI o.at_∧inI o.r0∧inI o.r1∧inI o.r2∧o.salt.length=32∧okB o.salt
def commitsB (d:List Nat) (side:ByteArray) (o:Opn):Bool:=decide (d=taggedN (sb side) (encN (o.its.map Nd.it)))
theorem exec_load {P:Program} {o:Oper} {a:Act} {ty:TypeId} {x:Operand} {q v:Value} {w:World} (ho:o.op = .load ty x) (hx:a.eval x=q) (h:(Instr.loadAt ty q).run P w = .ok v w):(execOp a.eval o).run P w = .ok (.value v) w:=by
  unfold execOp
  rw [ho]
  simp only [Sem.run_bind,hx,h,Result.andThen_ok,Sem.run_pure]
theorem load_mid {w:World} {g o:Nat} {t:TypeId} {cs:Array Value} (h:Blk w g t cs) (d:List Nat) (hd:d.length=32) (hc:∀ j v,(byts d)[j]?=some v→cs[o+j]?=some v) :
    (Instr.loadAt 43 (.pointer (some ⟨g,o,none⟩))).run Tryz.prog w = .ok (.agg (byts d).toArray) w :=
  run_loadAt_mid w g o 43 (byts d) _ (fun j v hj=>by
    have:=hc j v hj
    rw [←h.cell] at this
    exact this) dig_under rfl (by rw [byts_length,hd];exact dig_info)
theorem and6 {a b c d e f:Prop} (h1:a) (h2:b) (h3:c) (h4:d) (h5:e) (h6:f):a∧b∧c∧d∧e∧f:=⟨h1,h2,h3,h4,h5,h6⟩
theorem pa_commits (d:List Nat) (side:ByteArray) (o:Opn) (W:World) (hd:d.length=32) (ho:o.ok) (hside:side.size≤1000) (hG:ShaG W) :
    Calls Tryz.prog 120 #[.agg (byts d).toArray,.string side,.agg o.cl.toArray] W (Ret (.bool (commitsB d side o)) W):=by
  have B1:Blk ((W.alloc (.cells (byts d).toArray 43)).alloc (.cells o.cl.toArray 95)) W.heap.size 43 (byts d).toArray:=(Blk.new W _ _ _ rfl).alloc _
  have B2:Blk ((W.alloc (.cells (byts d).toArray 43)).alloc (.cells o.cl.toArray 95)) (W.heap.size+1) 95 o.cl.toArray:=Blk.new _ _ _ _ (by simp)
  have hb:=bAl (bAl (bRefl W) (.cells (byts d).toArray 43)) (.cells o.cl.toArray 95)
  go_enter Tryz.func120,Tryz.ntmps120
  go_upto_region 1 with fail
  generalize (W.alloc (.cells (byts d).toArray 43)).alloc (.cells o.cl.toArray 95)=w2 at *
  obtain ⟨o1,o2,o3,o4,o5,o6⟩:=ho
  have KS:Hid (∀ w',Below w2.heap.size w2 w'→_):=Lib.hid (fun w' h=>and6 (load_mid (B1.below h B1.lt) (o:=0) d hd (fun j v hj=>by rw [Nat.zero_add];simpa using hj)) (load_mid (B2.below h B2.lt) (o:=4) o.salt o5 (fun j v hj=>by
      have h4:(4+j) - 4=j:=by omega
      simp only [Opn.cl,List.getElem?_toArray]
      rw [List.getElem?_append_right (by simp),List.length_cons,List.length_cons,List.length_cons,List.length_cons,List.length_nil]
      rw [show 4+j - (0+1+1+1+1)=j by omega];exact hj))
    ((B2.below h B2.lt).cell 0) ((B2.below h B2.lt).cell 1) ((B2.below h B2.lt).cell 2) ((B2.below h B2.lt).cell 3))
  have q1:Hid (∀ w:World,Calls Tryz.prog 145 #[.slice (some ⟨w.heap.size,0,none⟩) 5 5] (w.alloc (.cells #[.iface 3 (.int .i64 o.at_),.iface 3 (.int .i64 o.r0),.iface 3 (.int .i64 o.r1),.iface 3 (.int .i64 o.r2),.iface 43 (.agg (byts o.salt).toArray)] 20)).drew (RetSl 1 (encN (o.its.map Nd.it)).length (byts (encN (o.its.map Nd.it))) (w.alloc (.cells #[.iface 3 (.int .i64 o.at_),.iface 3 (.int .i64 o.r0),.iface 3 (.int .i64 o.r1),.iface 3 (.int .i64 o.r2),.iface 43 (.agg (byts o.salt).toArray)] 20)).drew)):=by
    intro w
    exact pa_text (some ⟨w.heap.size,0,none⟩) 5 5 o.its (w.drew.alloc (.cells (o.its.map Nd.val).toArray 20)) (Rd.new w.drew _ _ 1 5 _ rfl rfl) (by
      intro x hx
      simp only [Opn.its,List.mem_cons,List.not_mem_nil,or_false] at hx
      rcases hx with rfl | rfl | rfl | rfl | rfl
      · exact o1
      · exact o2
      · exact o3
      · exact o4
      · exact ⟨o5,o6⟩) (by omega)
  have hits:∀ x∈o.its.map Nd.it,x.ok:=by
    intro x hx
    obtain ⟨y,hy,rfl⟩:=List.mem_map.1 hx
    refine Nd.it_ok ?_
    simp only [Opn.its,List.mem_cons,List.not_mem_nil,or_false] at hy
    rcases hy with rfl | rfl | rfl | rfl | rfl
    · exact o1
    · exact o2
    · exact o3
    · exact o4
    · exact ⟨o5,o6⟩
  have hlen:=encN_len hits (by simp [Opn.its])
  have Hits:=Lib.hid hlen
  clear hits hlen
  have hokE:=okB_encN (o.its.map Nd.it)
  obtain ⟨v,hv⟩:∃ v,v=commitsB d side o:=⟨_,rfl⟩
  have hv0:=Lib.hid hv
  unfold commitsB at hv
  have hTl:=taggedN_len (sb side) (encN (o.its.map Nd.it))
  generalize encN (o.its.map Nd.it)=E at *
  have q2:Hid (∀ (A:Option Addr) (c:Nat) (w:World),Below w2.heap.size w2 w→(Rd w w.heap.size 1 A E.length (byts E)∧E.length≤c∧c≤9223372036854775807∧(A=none→E.length=0∧c=0))→Calls Tryz.prog 136 #[.string side,.slice A E.length c] w (Ret (.agg (byts (taggedN (sb side) E)).toArray) w)):=fun A c w hw hs =>
    tagged_any side A E.length c E w hs.1 hs.2.2.2 hokE (by omega) (Nat.le_trans Hits.out (by decide)) (hG.below (bCall hb hw))
  have hq:=run_eqD d (taggedN (sb side) E) hd hTl
  have Hv:=Lib.hid hv
  clear hv hTl
  generalize taggedN (sb side) E=T at *
  refine wp_region_maskB (S:=fun w'=>(Instr.loadAt 43 (.pointer (some ⟨W.heap.size,0,none⟩))).run Tryz.prog w' = .ok (.agg (byts d).toArray) w'∧(Instr.loadAt 43 (.pointer (some ⟨W.heap.size+1,4,none⟩))).run Tryz.prog w' = .ok (.agg (byts o.salt).toArray) w'∧w'.cell? ⟨W.heap.size+1,0,none⟩=some (.int .i64 o.at_)∧w'.cell? ⟨W.heap.size+1,1,none⟩=some (.int .i64 o.r0)∧w'.cell? ⟨W.heap.size+1,2,none⟩=some (.int .i64 o.r1)∧w'.cell? ⟨W.heap.size+1,3,none⟩=some (.int .i64 o.r2)) (f:=24) (n:=4) KS [2,1,1,2,1,1,1,2,1,1,1,2,1,1,1,2,1,1,2,1,0,0,0,0,0] ?_
  simp only [pickH,pickT]
  refine wpHeads_r (v:=?v1) (hv:=?h1) ?_;case h1=>(intro w hSw;(first | refine (exec_load rfl rfl hSw.1).trans ?_ | refine (exec_load rfl rfl hSw.2.1).trans ?_ | refine (exec_load rfl rfl hSw.2.2.1).trans ?_ | refine (exec_load rfl rfl hSw.2.2.2.1).trans ?_);with_reducible rfl)
  refine wpHeads_t ?_
  refine wpHeads_t ?_
  refine wpHeads_r ?_
  refine wpHeads_t ?_
  refine wpHeads_t ?_
  refine wpHeads_t ?_
  refine wpHeads_r ?_
  refine wpHeads_t ?_
  refine wpHeads_t ?_
  refine wpHeads_t ?_
  refine wpHeads_r ?_
  refine wpHeads_t ?_
  refine wpHeads_t ?_
  refine wpHeads_t ?_
  refine wpHeads_r ?_
  refine wpHeads_t ?_
  refine wpHeads_t ?_
  refine wpHeads_r (v:=?v2) (hv:=?h2) ?_;case h2=>(intro w hSw;(first | refine (exec_load rfl rfl hSw.1).trans ?_ | refine (exec_load rfl rfl hSw.2.1).trans ?_ | refine (exec_load rfl rfl hSw.2.2.1).trans ?_ | refine (exec_load rfl rfl hSw.2.2.2.1).trans ?_);with_reducible rfl)
  refine wpHeads_t ?_
  refine wpHeads_nil ?_
  iterate 4 (refine wpTailS_cons (fun K hK=>?_);go_simp;(first | (go_at_call 136;(with_reducible refine (q2.out _ _ _ B3 hsl).mono ?_);rintro e w6 ⟨rfl,b6⟩;have B4:Below w2.heap.size w2 w6:=bCall B3 b6) | (go_at_call 145;(with_reducible refine (q1.out _).mono ?_);rintro e w5 ⟨v5,rfl,b5,A5,c5,rfl,hsl⟩;have B3:Below w2.heap.size w2 w5:=bCall (by repeat (first | exact bRefl _ | refine bAl ?_ _ | refine bDr ?_)) b5) | skip);refine mask_go hK KS ?_;clear hK K)
  refine wpTailS_zero ?_
  go_wp2_with fail
  refine NoPanic.normal ?_
  go_wp2_with fail
  go_ret
  exact ⟨ret_bool (Hv.out.symm.trans hv0.out),bCall hb B4⟩
def formedB (n m st:Nat) (first:List Ltr) (place:Int):Bool:=decide (2≤n)&&(decide (n≤9)&&(decide (m=n)&&(decide (st≤n)&&(decide (first.length≠0)&&(decide (first.length≤64)&&(first.all Ltr.good&&decide (0≤place∧place<first.length)))))))
theorem pa_formed (cs:Array Value) (first:List Ltr) (n m st c2 c3 c4:Nat) (A2 A3 A4:Option Addr) (place:Int) (W:World) (hF:LsAt W W.heap.size cs[3]? first) (h4:cs[4]?=some (.slice A2 n c2)) (h5:cs[5]?=some (.slice A3 m c3)) (h13:cs[13]?=some (.slice A4 st c4)) (h6:cs[6]?=some (.int .i64 place)) :
    Calls Tryz.prog 29 #[.agg cs] W (Ret (.bool (formedB n m st first place)) W):=by
  obtain ⟨A,c,h3,hA,_,hcm⟩:=hF
  obtain ⟨v,hv⟩:∃ v,v=formedB n m st first place:=⟨_,rfl⟩
  rw [←hv]
  unfold formedB at hv
  have B:=Blk.new W 33 cs _ rfl
  have hb:=bAl (bRefl W) (.cells cs 33)
  have k3:=(B.cell 3).trans h3
  have k4:=(B.cell 4).trans h4
  have k5:=(B.cell 5).trans h5
  have k6:=(B.cell 6).trans h6
  have k13:=(B.cell 13).trans h13
  clear h4 h5 h13
  go_enter Tryz.func29,Tryz.ntmps29
  go_upto_region 1 with fail
  generalize W.alloc (.cells cs 33)=w1 at *
  by_cases t1:2≤n
  case neg =>
    have Hv:Hid (v=false):=by show _=_;rw [hv,decide_eq_false t1];simp
    have e1:decide ((n:Int)<2)=true:=by rw [decide_eq_true];omega
    clear t1
    clear hv
    go_wp2_with fail
    go_ret
    exact ⟨ret_bool Hv.out.symm,hb⟩
  have e1:decide ((n:Int)<2)=false:=by rw [decide_eq_false];omega
  by_cases t2:n≤9
  case neg =>
    have Hv:Hid (v=false):=by show _=_;rw [hv,decide_eq_false t2];simp
    have e2:decide (9<(n:Int))=true:=by rw [decide_eq_true];omega
    clear t1 t2
    clear hv
    go_wp2_with fail
    go_ret
    exact ⟨ret_bool Hv.out.symm,hb⟩
  have e2:decide (9<(n:Int))=false:=by rw [decide_eq_false];omega
  by_cases t3:m=n
  case neg =>
    have Hv:Hid (v=false):=by show _=_;rw [hv,decide_eq_false t3];simp
    have e3:((m:Int) != (n:Int))=true:=by rw [bne_iff_ne];omega
    clear t1 t2
    clear hv
    go_wp2_with fail
    go_ret
    exact ⟨ret_bool Hv.out.symm,hb⟩
  have e3:((m:Int) != (n:Int))=false:=by rw [bne_eq_false_iff_eq];omega
  by_cases t4:st≤n
  case neg =>
    have Hv:Hid (v=false):=by show _=_;rw [hv,decide_eq_false t4];simp
    have e4:decide ((n:Int)<(st:Int))=true:=by rw [decide_eq_true];omega
    have e4':decide (n<st)=true:=by rw [decide_eq_true];omega
    clear t1 t2 t4
    clear hv
    go_wp2_with fail
    go_ret
    exact ⟨ret_bool Hv.out.symm,hb⟩
  have e4:decide ((n:Int)<(st:Int))=false:=by rw [decide_eq_false];omega
  have e4':decide (n<st)=false:=by rw [decide_eq_false];omega
  by_cases t5:first.length≠0
  case neg =>
    have Hv:Hid (v=false):=by show _=_;rw [hv,decide_eq_false t5];simp
    have e5:((first.length:Int)==0)=true:=by rw [beq_iff_eq];omega
    clear t1 t2 t4 t5
    clear hv
    go_wp2_with fail
    go_ret
    exact ⟨ret_bool Hv.out.symm,hb⟩
  have e5:((first.length:Int)==0)=false:=by rw [beq_eq_false_iff_ne];omega
  by_cases t6:first.length≤64
  case neg =>
    have Hv:Hid (v=false):=by show _=_;rw [hv,decide_eq_false t6];simp
    have e6:decide (64<(first.length:Int))=true:=by rw [decide_eq_true];omega
    clear t1 t2 t4 t5 t6
    clear hv
    go_wp2_with fail
    go_ret
    exact ⟨ret_bool Hv.out.symm,hb⟩
  have e6:decide (64<(first.length:Int))=false:=by rw [decide_eq_false];omega
  have Hv:Hid (v=(first.all Ltr.good&&decide (0≤place∧place<first.length))):=by
    show _=_
    rw [hv,decide_eq_true t1,decide_eq_true t2,decide_eq_true t3,decide_eq_true t4,decide_eq_true t5,decide_eq_true t6];rfl
  have hlen:=t6
  clear hv t1 t2 t3 t4 t5 t6
  go_wp2_with fail
  go_loopw [45] (fun i wr=>∃ k:Nat,k≤first.length∧i = .int .i64 k∧Below W.heap.size W wr∧Blk wr W.heap.size 33 cs∧Hid (∀ y∈first.take k,y.good=true)) (fun i _=>first.length - (intOf i).toNat)
  case atStart=>exact ⟨0,Nat.zero_le _,rfl,hb,B,Lib.hid (by simp)⟩
  case round =>
    clear k3 k4 k5 k6 k13 B hb e1 e2 e3 e4 e4' e5 e6
    obtain ⟨k,hkn,rfl,hb,B,hp⟩:=hrel
    by_cases hlt:k<first.length
    · obtain ⟨x,hx⟩:∃ x,Hid (first[k]?=some x):=⟨_,Lib.hid (List.getElem?_eq_getElem hlt)⟩
      obtain ⟨b,off,rfl,hbb,d0,d1,d2,d3,d4,d5⟩:=Ltr_at (hA.below hb) hlt hx.out
      have b2:=bAl (bRefl wr) (.cells #[.int .i64 x.a0,.int .i64 x.b0,.int .i64 x.a1,.int .i64 x.b1,.int .i64 x.a2,.int .i64 x.b2] 70)
      have q:=el_check x (wr.alloc (.cells #[.int .i64 x.a0,.int .i64 x.b0,.int .i64 x.a1,.int .i64 x.b1,.int .i64 x.a2,.int .i64 x.b2] 70))
      have he:x.err=if x.good=true then 0 else 100:=rfl
      cases hg:x.good
      · have Hv2:Hid (v=false):=by
          show _=_
          rw [Hv.out]
          have:first.all Ltr.good=false:=List.all_eq_false.2 ⟨x,List.mem_of_getElem? hx.out,by rw [hg];simp⟩
          rw [this];rfl
        rw [hg] at he
        simp at he
        rw [he] at q
        clear he hg
        go_wp2_with fail
        (with_reducible refine q.mono ?_)
        rintro e w3 ⟨rfl,b3⟩
        clear q
        go_wp2_with fail
        go_ret
        exact ⟨ret_bool Hv2.out.symm,bCall (bCall hb b2) b3⟩
      · have hp':Hid (∀ y∈first.take (k+1),y.good=true):=by
          intro y hy
          obtain ⟨hk,rfl⟩:=List.getElem?_eq_some_iff.1 hx.out
          rw [List.take_succ_eq_append_getElem hk] at hy
          rcases List.mem_append.1 hy with hy | hy
          · exact hp.out y hy
          · obtain rfl:y=first[k]:=by simpa using hy
            exact hg
        rw [hg] at he
        simp at he
        rw [he] at q
        clear he hg
        go_wp2_with fail
        (with_reducible refine q.mono ?_)
        rintro e w3 ⟨rfl,b3⟩
        clear q
        go_wp2_with fail
        exact ⟨⟨k+1,by omega,by go_num,bCall (bCall hb b2) b3,B.below (bCall b2 b3) B.lt,hp'⟩,by simp [intOf];omega⟩
    · have hall:first.all Ltr.good=true:=List.all_eq_true.2 (by have:=hp.out;rw [List.take_of_length_le (by omega)] at this;exact this)
      have Hv2:Hid (v=decide (0≤place∧place<first.length)):=by show _=_;rw [Hv.out,hall];rfl
      have k3:=(B.cell 3).trans h3
      have k6:=(B.cell 6).trans h6
      clear hall Hv
      by_cases p1:0≤place
      · go_wp2_with fail
        go_ret
        refine ⟨ret_bool ?_,hb⟩
        rw [Hv2.out,Bool.eq_iff_iff];simp [p1]
      · have Hv3:Hid (v=false):=by show _=_;rw [Hv2.out,decide_eq_false];omega
        go_wp2_with fail
        go_ret
        exact ⟨ret_bool Hv3.out.symm,hb⟩
end Go.Proofs.YtgkpomdegomgiaaGreatDoor

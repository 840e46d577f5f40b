/- paths.text, walked. -/
import Derived.Test.YtgkpomdegomgiaaGreatDoorMav
import Derived.Test.YtgkpomdegomgiaaGreatDoorMac
import Derived.Laws.IdiomStrings
import Derived.Lib.SlBytesRow
import Derived.Deep.MidRow
import Derived.Test.YtgkpomdegomgiaaGreatDoorMai
set_option maxRecDepth 1000000
set_option maxHeartbeats 16000000
namespace Go.Proofs.YtgkpomdegomgiaaGreatDoor
open Go.RowKit
def dgB (d:List Nat):List UInt8:=d.map fun n=>UInt8.ofNat n
def dgS (d:List Nat):ByteArray:=⟨(dgB d).toArray⟩
inductive Nd where
  | int (n:Int)
  | dig (d:List Nat)
def Nd.val:Nd→Value
  | .int n => .iface 3 (.int .i64 n)
  | .dig d => .iface 43 (.agg (byts d).toArray)
def Nd.it:Nd→It
  | .int n => .int n
  | .dig d => .text (dgS d)
def Nd.ok:Nd→Prop
  | .int n=>inI n
  | .dig d=>d.length=32∧okB d
theorem Nd.it_ok {x:Nd} (h:x.ok):x.it.ok:=by
  cases x with
  | int n=>exact h
  | dig d=>show (dgS d).size≤1000000;obtain ⟨h1,_⟩:=h;simp [dgS,dgB,ByteArray.size,h1]
theorem dgB_at {d:List Nat} (h:okB d) (j:Nat) (hj:j<(dgB d).length):((dgB d)[j].toNat:Int)=(d.getD j 0:Nat):=by
  have hj':j<d.length:=by simpa [dgB] using hj
  have:=h d[j] (List.getElem_mem hj')
  simp [dgB,hj',Nat.mod_eq_of_lt this]
theorem convert_dig {w:World} {g:Nat} {d:List Nat} (h:Blk w g 43 (byts d).toArray) (hl:d.length=32) (ho:okB d):(convert 106 9 (.slice (some ⟨g,0,none⟩) 32 32)).run Tryz.prog w = .ok (.string (dgS d)) w:=by
  have:=run_convert_bytes_back (P:=Tryz.prog) w 106 9 5 ⟨g,0,none⟩ 32 (dgB d) Tryz.underlying106 Tryz.underlying5 Tryz.underlying9 (fun j hj=>by
    have hj':j<d.length:=by simpa [dgB] using hj
    rw [addr_plus,Nat.zero_add,h.cell j,dgB_at ho j hj]
    simp [byts,hj'])
  rw [show (dgB d).length=32 by simp [dgB,hl]] at this
  exact this
theorem assert_int (m:Int) (w:World):(Instr.typeAssert (.iface 3 (.int .i64 m)) 20 3 true).run Tryz.prog w = .ok (.tuple #[.int .i64 m,.bool true]) w:=by kernel_rfl
theorem assert_int_no (cs:Array Value) (w:World):(Instr.typeAssert (.iface 43 (.agg cs)) 20 3 true).run Tryz.prog w = .ok (.tuple #[.int .i64 0,.bool false]) w:=by kernel_rfl
theorem assert_dig (cs:Array Value) (w:World):(Instr.typeAssert (.iface 43 (.agg cs)) 20 43 true).run Tryz.prog w = .ok (.tuple #[.agg cs,.bool true]) w:=by kernel_rfl
theorem pa_text (A:Option Addr) (n c:Nat) (l:List Nd) (W:World) (hA:Rd W W.heap.size 1 A n (l.map Nd.val)) (hok:∀ x∈l,x.ok) (hn:n≤100) :
    Calls Tryz.prog 145 #[.slice A n c] W (RetSl 1 (encN (l.map Nd.it)).length (byts (encN (l.map Nd.it))) W):=by
  obtain rfl:l.length=n:=by have:=hA.1;rw [List.length_map,Nat.mul_one] at this;exact this
  go_enter Tryz.func145,Tryz.ntmps145
  go_wp2_with fail
  have BV:=Blk.new W 145 #[.int .i64 3,.int .i64 0,.string ⟨#[]⟩,.slice none 0 0] _ rfl
  have hb:=bAl (bRefl W) (.cells #[.int .i64 3,.int .i64 0,.string ⟨#[]⟩,.slice none 0 0] 145)
  generalize W.alloc (.cells #[.int .i64 3,.int .i64 0,.string ⟨#[]⟩,.slice none 0 0] 145)=w1 at *
  go_loopw [13] (fun i wr=>∃ (k:Nat) (v:Value),k≤l.length∧i = .int .i64 k∧Below W.heap.size W wr∧Blk wr W.heap.size 145 #[.int .i64 3,.int .i64 0,.string ⟨#[]⟩,v]∧wr.ownsRow (W.heap.size+1) 145 4 v k (((l.take k).map Nd.it).flatMap It.cells)) (fun i _=>l.length - (intOf i).toNat)
  case atStart=>exact ⟨0,_,Nat.zero_le _,rfl,hb,BV,World.ownsRow_nil _ _ _ _⟩
  case round =>
    clear hb BV
    obtain ⟨k,v,hk,rfl,hb,BV,hown⟩:=hrel
    have c3:wr.cell? ⟨W.heap.size,3,none⟩=some v:=BV.cell 3
    have z3:=BV.frozen 3
    by_cases hlt:k<l.length
    · obtain ⟨x,hx⟩:∃ x,Hid (l[k]?=some x):=⟨_,Lib.hid (List.getElem?_eq_getElem hlt)⟩
      obtain ⟨b,off,rfl,hbb,hc⟩:=(hA.below hb).2 (by omega)
      have d0:wr.cell? ⟨b,off+k,none⟩=some x.val:=hc k _ (by rw [List.getElem?_map,hx.out];rfl)
      clear hc
      have hsn:Hid (((l.take (k+1)).map Nd.it).flatMap It.cells=((l.take k).map Nd.it).flatMap It.cells++x.it.cells):=by
        obtain ⟨hk,rfl⟩:=List.getElem?_eq_some_iff.1 hx.out
        show _=_
        rw [List.take_succ_eq_append_getElem hk,List.map_append,List.flatMap_append];simp
      have hbs:W.heap.size+1≤wr.heap.size:=BV.lt
      have h63:k+1≤maxLen:=by unfold maxLen;omega
      have hby:(k+1)*56≤140737488355328:=by omega
      have hxok:=hok x (List.mem_of_getElem? hx.out)
      cases x with
      | int m =>
        have hone:=it_one (.int m)
        have ta:=assert_int m
        change wr.cell? ⟨b,off+k,none⟩=some (.iface 3 (.int .i64 m)) at d0
        go_wp2_with (at_builtin;refine wpList_append1G wr [.int .i64 1,.int .i64 m,.string ⟨#[]⟩,.slice none 0 0] (.tmp 22) (.tmp 25) 143 (W.heap.size+1) 145 (.agg #[.int .i64 0,.int .i64 0,.string ⟨#[]⟩,.slice none 0 0]) 4 56 v k (((l.take k).map Nd.it).flatMap It.cells) rfl rfl Tryz.underlying143 value_info rfl (by omega) rfl hown rfl rfl hone h63 hby hbs ?_;intro v' w' hown4 hg4;obtain ⟨g',cap',rfl⟩:=ownsRow_succ hown4;have b4:=hg4.below hown hbs;have BV4:=BV.below b4 (by omega);have c4:=val_cell BV4;have z4:=BV4.frozen 3)
        exact ⟨⟨k+1,_,by omega,by go_num,bSet (hb.trans (b4.mono (by omega))) (Nat.le_refl _) _,BV4.set_ 3 _,by rw [hsn.out];exact ownsRow_set hown4 (p:=⟨W.heap.size,3,none⟩) (by show W.heap.size<W.heap.size+1;omega) _⟩,by simp [intOf];omega⟩
      | dig d =>
        change wr.cell? ⟨b,off+k,none⟩=some (.iface 43 (.agg (byts d).toArray)) at d0
        have ta:=assert_int_no (byts d).toArray
        have tb:=assert_dig (byts d).toArray
        obtain ⟨hd1,hd2⟩:=hxok
        have st1:=store_dig d hd1
        have hbl:(byts d).length=32:=by rw [byts_length,hd1]
        go_upto_region 11 with fail
        have BD:=Blk.new wr 43 (byts d).toArray _ rfl
        have BV1:=BV.alloc (.cells (byts d).toArray 43)
        have hown1:=hown.alloc (.cells (byts d).toArray 43)
        have hb1:=bAl hb (.cells (byts d).toArray 43)
        have hs1:W.heap.size+1≤(wr.alloc (.cells (byts d).toArray 43)).heap.size:=by simp;omega
        generalize wr.alloc (.cells (byts d).toArray 43)=w2 at *
        generalize wr.heap.size=g7 at *
        have KS:Hid (∀ w',Below w2.heap.size w2 w'→_):=Lib.hid (fun w' h=>And.intro (val_cell (BV1.below h BV1.lt)) (convert_dig (BD.below h BD.lt) hd1 hd2))
        clear c3 z3 d0 ta tb st1 hbl
        refine wp_region_maskB (f:=6) (n:=1) KS [1,2,1,2,1,0,0,0,0] ?_
        simp only [pickH,pickT]
        refine wpHeads_t ?_
        refine wpHeads_r ?_
        refine wpHeads_t ?_
        refine wpHeads_r ?_
        refine wpHeads_t ?_
        refine wpHeads_nil ?_
        iterate 1 (refine wpTailS_cons (fun K hK=>?_);go_simp;(first | (fail) | skip);refine mask_go hK KS ?_;clear hK K)
        refine wpTailS_zero ?_
        have hone:=it_one (.text (dgS d))
        change wpList _ _ _ _ _ (w2.drew.alloc (.cells #[.int .i64 2,.int .i64 0,.string (dgS d),.slice none 0 0] 145))
        replace hown1:w2.drew.ownsRow (W.heap.size+1) 145 4 v k (((l.take k).map Nd.it).flatMap It.cells):=hown1
        replace BV1:=Blk.dr BV1
        replace hb1:=bDr hb1
        replace hs1:W.heap.size+1≤w2.drew.heap.size:=hs1
        clear KS BD
        refine wpList_append1G w2.drew [.int .i64 2,.int .i64 0,.string (dgS d),.slice none 0 0] (.tmp 32) (.tmp 36) 143 (W.heap.size+1) 145 (.agg #[.int .i64 0,.int .i64 0,.string ⟨#[]⟩,.slice none 0 0]) 4 56 v k (((l.take k).map Nd.it).flatMap It.cells) (by rfl) (by rfl) Tryz.underlying143 value_info rfl (by omega) (by rfl) hown1 (by rfl) rfl hone h63 hby hs1 ?_
        intro v' w' hown4 hg4
        obtain ⟨g',cap',rfl⟩:=ownsRow_succ hown4
        have b4:=hg4.below hown1 hs1
        have BV4:=BV1.below b4 (by omega)
        have c4:=val_cell BV4
        have z4:=BV4.frozen 3
        go_wp2_with fail
        refine NoPanic.normal ?_
        go_wp2_with fail
        exact ⟨⟨k+1,_,by omega,by go_num,bSet (hb1.trans (b4.mono (by omega))) (Nat.le_refl _) _,BV4.set_ 3 _,by rw [hsn.out];exact ownsRow_set hown4 (p:=⟨W.heap.size,3,none⟩) (by show W.heap.size<W.heap.size+1;omega) _⟩,by simp [intOf];omega⟩
    · have hkn:k=l.length:=by omega
      rw [hkn,List.take_length] at hown
      clear hkn
      obtain ⟨A2,c2,hv,hR,_⟩:=Sl.of_own hown
      subst hv
      have e0:wr.cell? ⟨W.heap.size,0,none⟩=some (.int .i64 3):=BV.cell 0
      have e1:wr.cell? ⟨W.heap.size,1,none⟩=some (.int .i64 0):=BV.cell 1
      have e2:wr.cell? ⟨W.heap.size,2,none⟩=some (.string ⟨#[]⟩):=BV.cell 2
      have q:=encode_list A2 l.length c2 (l.map Nd.it) wr hR (by
        intro x hx
        obtain ⟨y,hy,rfl⟩:=List.mem_map.1 hx
        exact Nd.it_ok (hok y hy)) (by omega)
      unfold listV at q
      go_wp2_with fail
      with_reducible refine q.mono ?_
      rintro e w5 ⟨v,rfl,b5,hv⟩
      have hb5:=bCall hb b5
      go_wp2_with fail
      go_ret
      exact ⟨_,rfl,hb5,hv⟩
structure Opn where
  at_:Int
  r0:Int
  r1:Int
  r2:Int
  salt:List Nat
def Opn.cl (o:Opn):List Value:=[.int .i64 o.at_,.int .i64 o.r0,.int .i64 o.r1,.int .i64 o.r2]++byts o.salt
def Opn.its (o:Opn):List Nd:=[.int o.at_,.int o.r0,.int o.r1,.int o.r2,.dig o.salt]
def Opn.ok (o:Opn):Prop:=inI o.at_∧inI o.r0∧inI o.r1∧inI o.r2∧o.salt.length=32∧okB o.salt
def commitsB (d:List Nat) (side:ByteArray) (o:Opn):Bool:=decide (d=taggedN (sb side) (encN (o.its.map Nd.it)))
theorem exec_load {P:Program} {o:Oper} {a:Act} {ty:TypeId} {x:Operand} {q v:Value} {w:World} (ho:o.op = .load ty x) (hx:a.eval x=q) (h:(Instr.loadAt ty q).run P w = .ok v w):(execOp a.eval o).run P w = .ok (.value v) w:=by
  unfold execOp
  rw [ho]
  simp only [Sem.run_bind,hx,h,Result.andThen_ok,Sem.run_pure]
theorem load_mid {w:World} {g o:Nat} {t:TypeId} {cs:Array Value} (h:Blk w g t cs) (d:List Nat) (hd:d.length=32) (hc:∀ j v,(byts d)[j]?=some v→cs[o+j]?=some v) :
    (Instr.loadAt 43 (.pointer (some ⟨g,o,none⟩))).run Tryz.prog w = .ok (.agg (byts d).toArray) w :=
  run_loadAt_mid w g o 43 (byts d) _ (fun j v hj=>by
    have:=hc j v hj
    rw [←h.cell] at this
    exact this) dig_under rfl (by rw [byts_length,hd];exact dig_info)
theorem and6 {a b c d e f:Prop} (h1:a) (h2:b) (h3:c) (h4:d) (h5:e) (h6:f):a∧b∧c∧d∧e∧f:=⟨h1,h2,h3,h4,h5,h6⟩
theorem pa_commits (d:List Nat) (side:ByteArray) (o:Opn) (W:World) (hd:d.length=32) (ho:o.ok) (hside:side.size≤1000) (hG:ShaG W) :
    Calls Tryz.prog 120 #[.agg (byts d).toArray,.string side,.agg o.cl.toArray] W (Ret (.bool (commitsB d side o)) W):=by
  have B1:Blk ((W.alloc (.cells (byts d).toArray 43)).alloc (.cells o.cl.toArray 95)) W.heap.size 43 (byts d).toArray:=(Blk.new W _ _ _ rfl).alloc _
  have B2:Blk ((W.alloc (.cells (byts d).toArray 43)).alloc (.cells o.cl.toArray 95)) (W.heap.size+1) 95 o.cl.toArray:=Blk.new _ _ _ _ (by simp)
  have hb:=bAl (bAl (bRefl W) (.cells (byts d).toArray 43)) (.cells o.cl.toArray 95)
  go_enter Tryz.func120,Tryz.ntmps120
  go_upto_region 1 with fail
  generalize (W.alloc (.cells (byts d).toArray 43)).alloc (.cells o.cl.toArray 95)=w2 at *
  obtain ⟨o1,o2,o3,o4,o5,o6⟩:=ho
  have KS:Hid (∀ w',Below w2.heap.size w2 w'→_):=Lib.hid (fun w' h=>and6 (load_mid (B1.below h B1.lt) (o:=0) d hd (fun j v hj=>by rw [Nat.zero_add];simpa using hj)) (load_mid (B2.below h B2.lt) (o:=4) o.salt o5 (fun j v hj=>by
      have h4:(4+j) - 4=j:=by omega
      simp only [Opn.cl,List.getElem?_toArray]
      rw [List.getElem?_append_right (by simp),List.length_cons,List.length_cons,List.length_cons,List.length_cons,List.length_nil]
      rw [show 4+j - (0+1+1+1+1)=j by omega];exact hj))
    ((B2.below h B2.lt).cell 0) ((B2.below h B2.lt).cell 1) ((B2.below h B2.lt).cell 2) ((B2.below h B2.lt).cell 3))
  have q1:Hid (∀ w:World,Calls Tryz.prog 145 #[.slice (some ⟨w.heap.size,0,none⟩) 5 5] (w.alloc (.cells #[.iface 3 (.int .i64 o.at_),.iface 3 (.int .i64 o.r0),.iface 3 (.int .i64 o.r1),.iface 3 (.int .i64 o.r2),.iface 43 (.agg (byts o.salt).toArray)] 20)).drew (RetSl 1 (encN (o.its.map Nd.it)).length (byts (encN (o.its.map Nd.it))) (w.alloc (.cells #[.iface 3 (.int .i64 o.at_),.iface 3 (.int .i64 o.r0),.iface 3 (.int .i64 o.r1),.iface 3 (.int .i64 o.r2),.iface 43 (.agg (byts o.salt).toArray)] 20)).drew)):=by
    intro w
    exact pa_text (some ⟨w.heap.size,0,none⟩) 5 5 o.its (w.drew.alloc (.cells (o.its.map Nd.val).toArray 20)) (Rd.new w.drew _ _ 1 5 _ rfl rfl) (by
      intro x hx
      simp only [Opn.its,List.mem_cons,List.not_mem_nil,or_false] at hx
      rcases hx with rfl | rfl | rfl | rfl | rfl
      · exact o1
      · exact o2
      · exact o3
      · exact o4
      · exact ⟨o5,o6⟩) (by omega)
  have hits:∀ x∈o.its.map Nd.it,x.ok:=by
    intro x hx
    obtain ⟨y,hy,rfl⟩:=List.mem_map.1 hx
    refine Nd.it_ok ?_
    simp only [Opn.its,List.mem_cons,List.not_mem_nil,or_false] at hy
    rcases hy with rfl | rfl | rfl | rfl | rfl
    · exact o1
    · exact o2
    · exact o3
    · exact o4
    · exact ⟨o5,o6⟩
  have hlen:=encN_len hits (by simp [Opn.its])
  have Hits:=Lib.hid hlen
  clear hits hlen
  have hokE:=okB_encN (o.its.map Nd.it)
  obtain ⟨v,hv⟩:∃ v,v=commitsB d side o:=⟨_,rfl⟩
  have hv0:=Lib.hid hv
  unfold commitsB at hv
  have hTl:=taggedN_len (sb side) (encN (o.its.map Nd.it))
  generalize encN (o.its.map Nd.it)=E at *
  have q2:Hid (∀ (A:Option Addr) (c:Nat) (w:World),Below w2.heap.size w2 w→(Rd w w.heap.size 1 A E.length (byts E)∧E.length≤c∧c≤9223372036854775807∧(A=none→E.length=0∧c=0))→Calls Tryz.prog 136 #[.string side,.slice A E.length c] w (Ret (.agg (byts (taggedN (sb side) E)).toArray) w)):=fun A c w hw hs =>
    tagged_any side A E.length c E w hs.1 hs.2.2.2 hokE (by omega) (Nat.le_trans Hits.out (by decide)) (hG.below (bCall hb hw))
  have hq:=run_eqD d (taggedN (sb side) E) hd hTl
  have Hv:=Lib.hid hv
  clear hv hTl
  generalize taggedN (sb side) E=T at *
  refine wp_region_maskB (S:=fun w'=>(Instr.loadAt 43 (.pointer (some ⟨W.heap.size,0,none⟩))).run Tryz.prog w' = .ok (.agg (byts d).toArray) w'∧(Instr.loadAt 43 (.pointer (some ⟨W.heap.size+1,4,none⟩))).run Tryz.prog w' = .ok (.agg (byts o.salt).toArray) w'∧w'.cell? ⟨W.heap.size+1,0,none⟩=some (.int .i64 o.at_)∧w'.cell? ⟨W.heap.size+1,1,none⟩=some (.int .i64 o.r0)∧w'.cell? ⟨W.heap.size+1,2,none⟩=some (.int .i64 o.r1)∧w'.cell? ⟨W.heap.size+1,3,none⟩=some (.int .i64 o.r2)) (f:=24) (n:=4) KS [2,1,1,2,1,1,1,2,1,1,1,2,1,1,1,2,1,1,2,1,0,0,0,0,0] ?_
  simp only [pickH,pickT]
  refine wpHeads_r (v:=?v1) (hv:=?h1) ?_;case h1=>(intro w hSw;(first | refine (exec_load rfl rfl hSw.1).trans ?_ | refine (exec_load rfl rfl hSw.2.1).trans ?_ | refine (exec_load rfl rfl hSw.2.2.1).trans ?_ | refine (exec_load rfl rfl hSw.2.2.2.1).trans ?_);with_reducible rfl)
  refine wpHeads_t ?_
  refine wpHeads_t ?_
  refine wpHeads_r ?_
  refine wpHeads_t ?_
  refine wpHeads_t ?_
  refine wpHeads_t ?_
  refine wpHeads_r ?_
  refine wpHeads_t ?_
  refine wpHeads_t ?_
  refine wpHeads_t ?_
  refine wpHeads_r ?_
  refine wpHeads_t ?_
  refine wpHeads_t ?_
  refine wpHeads_t ?_
  refine wpHeads_r ?_
  refine wpHeads_t ?_
  refine wpHeads_t ?_
  refine wpHeads_r (v:=?v2) (hv:=?h2) ?_;case h2=>(intro w hSw;(first | refine (exec_load rfl rfl hSw.1).trans ?_ | refine (exec_load rfl rfl hSw.2.1).trans ?_ | refine (exec_load rfl rfl hSw.2.2.1).trans ?_ | refine (exec_load rfl rfl hSw.2.2.2.1).trans ?_);with_reducible rfl)
  refine wpHeads_t ?_
  refine wpHeads_nil ?_
  iterate 4 (refine wpTailS_cons (fun K hK=>?_);go_simp;(first | (go_at_call 136;(with_reducible refine (q2.out _ _ _ B3 hsl).mono ?_);rintro e w6 ⟨rfl,b6⟩;have B4:Below w2.heap.size w2 w6:=bCall B3 b6) | (go_at_call 145;(with_reducible refine (q1.out _).mono ?_);rintro e w5 ⟨v5,rfl,b5,A5,c5,rfl,hsl⟩;have B3:Below w2.heap.size w2 w5:=bCall (by repeat (first | exact bRefl _ | refine bAl ?_ _ | refine bDr ?_)) b5) | skip);refine mask_go hK KS ?_;clear hK K)
  refine wpTailS_zero ?_
  go_wp2_with fail
  refine NoPanic.normal ?_
  go_wp2_with fail
  go_ret
  exact ⟨ret_bool (Hv.out.symm.trans hv0.out),bCall hb B4⟩
abbrev intV (n:Int):Value := .agg #[.int .i64 1,.int .i64 n,.string ⟨#[]⟩,.slice none 0 0]
abbrev textV (s:ByteArray):Value := .agg #[.int .i64 2,.int .i64 0,.string s,.slice none 0 0]
theorem ref_vint (n:Int) (W:World):Calls Tryz.prog 89 #[.int .i64 n] W (Ret (intV n) W):=by
  have hb:=bAl (bRefl W) (.cells #[.int .i64 1,.int .i64 n,.string ⟨#[]⟩,.slice none 0 0] 145)
  go_enter Tryz.func89,Tryz.ntmps89
  go_wp2_with fail
  exact bodyPost_ret (v:=intV n) (by simp [results,Tryz.results89,go_sem,intV]) rfl ⟨rfl,hb⟩
def RetV (l:List It) (W:World) (r:Ending) (w':World):Prop:=∃ A c,r = .returned (listV A l.length c)∧Below W.heap.size W w'∧Rd w' w'.heap.size 4 A l.length (l.flatMap It.cells)
def RetVO (l:List It) (W:World) (r:Ending) (w':World):Prop:=∃ A c,r = .returned (listV A l.length c)∧Below W.heap.size W w'∧w'.ownsRow W.heap.size 145 4 (.slice A l.length c) l.length (l.flatMap It.cells)
theorem ref_intsO (A:Option Addr) (n c:Nat) (l:List Int) (W:World) (hA:Rd W W.heap.size 1 A n (ints l)) (hn:n≤100) :
    Calls Tryz.prog 87 #[.slice A n c] W (RetVO (l.map It.int) W):=by
  obtain rfl:l.length=n:=by have:=hA.1;rw [ints_length,Nat.mul_one] at this;exact this
  go_enter Tryz.func87,Tryz.ntmps87
  go_upto_region 2 with fail
  have BR:=(Blk.new W 145 #[.int .i64 0,.int .i64 0,.string ⟨#[]⟩,.slice none 0 0] _ rfl).alloc (.cells #[.int .i64 3,.int .i64 0,.string ⟨#[]⟩,.slice none 0 0] 145)
  have BV:=Blk.new (W.alloc (.cells #[.int .i64 0,.int .i64 0,.string ⟨#[]⟩,.slice none 0 0] 145)) 145 #[.int .i64 3,.int .i64 0,.string ⟨#[]⟩,.slice none 0 0] (W.heap.size+1) (by simp)
  have hb:=bAl (bAl (bRefl W) (.cells #[.int .i64 0,.int .i64 0,.string ⟨#[]⟩,.slice none 0 0] 145)) (.cells #[.int .i64 3,.int .i64 0,.string ⟨#[]⟩,.slice none 0 0] 145)
  generalize (W.alloc (.cells #[.int .i64 0,.int .i64 0,.string ⟨#[]⟩,.slice none 0 0] 145)).alloc (.cells #[.int .i64 3,.int .i64 0,.string ⟨#[]⟩,.slice none 0 0] 145)=w1 at *
  go_wp2_with fail
  go_loopw [4] (fun i wr=>∃ (k:Nat) (v:Value),k≤l.length∧i = .int .i64 k∧Below W.heap.size W wr∧Blk wr W.heap.size 145 #[.int .i64 0,.int .i64 0,.string ⟨#[]⟩,.slice none 0 0]∧Blk wr (W.heap.size+1) 145 #[.int .i64 3,.int .i64 0,.string ⟨#[]⟩,v]∧wr.ownsRow (W.heap.size+2) 145 4 v k (((l.take k).map It.int).flatMap It.cells)) (fun i _=>l.length - (intOf i).toNat)
  case atStart=>exact ⟨0,_,Nat.zero_le _,rfl,hb,BR,BV,World.ownsRow_nil _ _ _ _⟩
  case round =>
    clear hb BV BR
    obtain ⟨k,v,hk,rfl,hb,BR,BV,hown⟩:=hrel
    by_cases hlt:k<l.length
    · obtain ⟨x,hx⟩:∃ x,Hid (l[k]?=some x):=⟨_,Lib.hid (List.getElem?_eq_getElem hlt)⟩
      obtain ⟨b,off,rfl,hbb,d0⟩:=Int_at (hA.below hb) hlt hx.out
      have hsn:Hid (((l.take (k+1)).map It.int).flatMap It.cells=((l.take k).map It.int).flatMap It.cells++(It.int x).cells):=by
        obtain ⟨hk,rfl⟩:=List.getElem?_eq_some_iff.1 hx.out
        show _=_
        rw [List.take_succ_eq_append_getElem hk,List.map_append,List.flatMap_append];simp
      have hbs:W.heap.size+1<wr.heap.size:=BV.lt
      have hone:=it_one (.int x)
      have h63:k+1≤maxLen:=by unfold maxLen;omega
      have hby:(k+1)*56≤140737488355328:=by omega
      have i0:(0:Int)≤(k:Int):=by omega
      have i1:(k:Int)<(l.length:Int):=by omega
      have KS:Hid (∀ w',Below wr.heap.size wr w'→w'.cell? ⟨W.heap.size+1,3,none⟩=some v∧w'.cell? ⟨b,off+k,none⟩=some (.int .i64 x)):=Lib.hid (fun w' h=>⟨(BV.below h BV.lt).cell 3,(h.cell (p:=⟨b,off+k,none⟩) (Nat.lt_of_lt_of_le hbb hb.size)).trans d0⟩)
      clear d0
      go_upto_region 5 with fail
      refine wp_region_schB (f:=8) KS [(0,1),(1,2),(2,1),(3,1),(4,1),(5,2),(6,0),(7,0),(8,3),(9,3),(10,3)] ?_
      simp only [pickS,List.getElem?_cons_zero,List.getElem?_cons_succ]
      refine wpSched_t ?_
      refine wpSched_r ?_
      refine wpSched_t ?_
      refine wpSched_t ?_
      refine wpSched_t ?_
      refine wpSched_r ?_
      refine wpSched_force (fun K hK=>?_)
      go_simp;(first | (go_at_call 89;(with_reducible refine (ref_vint x wr.drew).mono ?_);unfold intV;rintro e w9 ⟨rfl,b9⟩;have B7:Below wr.heap.size wr w9:=bCall (bDr (bRefl _)) b9) | skip)
      refine shut_go hK KS ?_
      clear hK K
      refine wpSched_force (fun K hK=>?_)
      go_simp;(first | (go_at_call 89;(with_reducible refine (ref_vint x wr.drew).mono ?_);unfold intV;rintro e w9 ⟨rfl,b9⟩;have B7:Below wr.heap.size wr w9:=bCall (bDr (bRefl _)) b9) | skip)
      refine shut_go hK KS ?_
      clear hK K
      refine wpSched_last ?_
      first | simp only [List.map_nil] | simp only [List.map_cons,List.map_nil]
      have hown9:w9.ownsRow (W.heap.size+2) 145 4 v k _:=ownsRow_keep hown B7
      have BV9:=BV.below B7 BV.lt
      have BR9:=BR.below B7 BR.lt
      have hb9:=bCall hb B7
      have hs9:W.heap.size+2≤w9.heap.size:=Nat.le_trans hbs B7.size
      refine wpList_append1G w9 [.int .i64 1,.int .i64 x,.string ⟨#[]⟩,.slice none 0 0] (.tmp 13) (.tmp 19) 143 (W.heap.size+2) 145 (.agg #[.int .i64 0,.int .i64 0,.string ⟨#[]⟩,.slice none 0 0]) 4 56 v k (((l.take k).map It.int).flatMap It.cells) (by rfl) (by rfl) Tryz.underlying143 value_info rfl (by omega) (by rfl) hown9 (by rfl) rfl hone h63 hby hs9 ?_
      intro v' w' hown4 hg4
      obtain ⟨g',cap',rfl⟩:=ownsRow_succ hown4
      have b4:=hg4.below hown9 hs9
      have BV4:=BV9.below b4 (by omega)
      have BR4:=BR9.below b4 (by omega)
      have c4:=val_cell BV4
      have z4:=BV4.frozen 3
      have hb4:=hb9.trans (b4.mono (by omega))
      clear KS B7 hown9 BV9 BR9 hb9 hs9 b4 hown hb BR BV hg4
      go_wp2_with fail
      refine NoPanic.normal ?_
      go_wp2_with fail
      exact ⟨⟨k+1,_,by omega,by go_num,bSet hb4 (by show W.heap.size≤W.heap.size+1;omega) _,BR4.far (by show W.heap.size≠W.heap.size+1;omega) _,BV4.set_ 3 _,by rw [hsn.out];exact ownsRow_set hown4 (p:=⟨W.heap.size+1,3,none⟩) (by show W.heap.size+1<W.heap.size+2;omega) _⟩,by simp [intOf];omega⟩
    · have hkn:k=l.length:=by omega
      rw [hkn,List.take_length] at hown
      clear hkn
      obtain ⟨A2,c2,hv,hR,_⟩:=Sl.of_own hown
      subst hv
      obtain ⟨e0,e1,e2,e3⟩:=box_cells BV
      have z0:=BR.frozen 0
      have z1:=BR.frozen 1
      have z2:=BR.frozen 2
      have z3:=BR.frozen 3
      obtain ⟨y0,y1,y2,y3⟩:=box_cells BR
      have hlm:Hid ((l.map It.int).length=l.length):=by show _=_;simp
      have hown2:=ownsRow_set (ownsRow_set (ownsRow_set (ownsRow_set hown (p:=⟨W.heap.size,0,none⟩) (by show W.heap.size<W.heap.size+2;omega) (.int .i64 3)) (p:=⟨W.heap.size,1,none⟩) (by show W.heap.size<W.heap.size+2;omega) (.int .i64 0)) (p:=⟨W.heap.size,2,none⟩) (by show W.heap.size<W.heap.size+2;omega) (.string ⟨#[]⟩)) (p:=⟨W.heap.size,3,none⟩) (by show W.heap.size<W.heap.size+2;omega) (.slice A2 l.length c2)
      have hb2:=bSet (bSet (bSet (bSet hb (p:=⟨W.heap.size,0,none⟩) (Nat.le_refl _) (.int .i64 3)) (p:=⟨W.heap.size,1,none⟩) (Nat.le_refl _) (.int .i64 0)) (p:=⟨W.heap.size,2,none⟩) (Nat.le_refl _) (.string ⟨#[]⟩)) (p:=⟨W.heap.size,3,none⟩) (Nat.le_refl _) (.slice A2 l.length c2)
      have BR2:=(((BR.set_ 0 (.int .i64 3)).set_ 1 (.int .i64 0)).set_ 2 (.string ⟨#[]⟩)).set_ 3 (.slice A2 l.length c2)
      go_wp2_with fail
      generalize (((wr.setCell ⟨W.heap.size,0,none⟩ (.int .i64 3)).setCell ⟨W.heap.size,1,none⟩ (.int .i64 0)).setCell ⟨W.heap.size,2,none⟩ (.string ⟨#[]⟩)).setCell ⟨W.heap.size,3,none⟩ (.slice A2 l.length c2)=w8 at *
      have r0:w8.cell? ⟨W.heap.size,0,none⟩=some (.int .i64 3):=by simpa using BR2.cell 0
      have r1:w8.cell? ⟨W.heap.size,1,none⟩=some (.int .i64 0):=by simpa using BR2.cell 1
      have r2:w8.cell? ⟨W.heap.size,2,none⟩=some (.string ⟨#[]⟩):=by simpa using BR2.cell 2
      have r3:w8.cell? ⟨W.heap.size,3,none⟩=some (.slice A2 l.length c2):=by simpa using BR2.cell 3
      exact bodyPost_ret (v:=listV A2 l.length c2) (by simp [results,Tryz.results87,go_sem,listV,r0,r1,r2,r3]) rfl ⟨A2,c2,by rw [hlm.out],hb2,by rw [hlm.out];exact own_base hown2 (by omega)⟩
theorem ref_ints (A:Option Addr) (n c:Nat) (l:List Int) (W:World) (hA:Rd W W.heap.size 1 A n (ints l)) (hn:n≤100) :
    Calls Tryz.prog 87 #[.slice A n c] W (RetV (l.map It.int) W):=by
  refine (ref_intsO A n c l W hA hn).mono ?_
  rintro e w ⟨A2,c2,rfl,hb,ho⟩
  obtain ⟨A3,c3,hv,hR,_⟩:=Sl.of_own ho
  injection hv with hA3 _ hc3
  subst hA3;subst hc3
  exact ⟨_,_,rfl,hb,hR⟩
theorem ref_text (A:Option Addr) (n c:Nat) (l:List Int) (W:World) (hA:Rd W W.heap.size 1 A n (ints l)) (hok:∀ x∈l,inI x) (hn:n≤100) :
    Calls Tryz.prog 150 #[.slice A n c] W (RetSl 1 (encN (l.map It.int)).length (byts (encN (l.map It.int))) W):=by
  have hl:l.length≤100:=by have:=hA.1;rw [ints_length,Nat.mul_one] at this;omega
  have q:=ref_ints A n c l W hA hn
  go_enter Tryz.func150,Tryz.ntmps150
  go_wp2_with fail
  with_reducible refine q.mono ?_
  rintro e w2 ⟨A2,c2,rfl,b2,hR⟩
  have q2:=ref_encode A2 (l.map It.int).length c2 (l.map It.int) w2 hR (by
    intro x hx
    obtain ⟨y,hy,rfl⟩:=List.mem_map.1 hx
    exact hok y hy) (by rw [List.length_map];omega)
  unfold listV at q2 ⊢
  rw [List.length_map] at q2
  clear q
  go_wp2_with fail
  with_reducible refine q2.mono ?_
  rintro e w3 ⟨v3,rfl,b3,hS⟩
  have hb3:=bCall b2 b3
  clear q2
  go_wp2_with fail
  go_ret
  exact ⟨_,rfl,hb3,hS⟩
theorem convert_row {w:World} {A:Option Addr} {c:Nat} {d:List Nat} (h:Rd w w.heap.size 1 A 32 (byts d)) (hl:d.length=32) (ho:okB d):(convert 106 9 (.slice A 32 c)).run Tryz.prog w = .ok (.string (dgS d)) w:=by
  obtain ⟨b,off,rfl,_,hc⟩:=h.2 (by omega)
  have:=run_convert_bytes_back (P:=Tryz.prog) w 106 9 5 ⟨b,off,none⟩ c (dgB d) Tryz.underlying106 Tryz.underlying5 Tryz.underlying9 (fun j hj=>by
    have hj':j<d.length:=by simpa [dgB] using hj
    rw [addr_plus,dgB_at ho j hj]
    refine hc j _ ?_
    simp [byts,hj'])
  rw [show (dgB d).length=32 by simp [dgB,hl]] at this
  exact this
end Go.Proofs.YtgkpomdegomgiaaGreatDoor

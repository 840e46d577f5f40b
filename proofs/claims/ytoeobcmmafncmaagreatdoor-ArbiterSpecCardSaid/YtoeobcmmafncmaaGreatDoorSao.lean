/- paths.text, walked. -/
import Derived.Test.YtoeobcmmafncmaaGreatDoorSan
import Derived.Test.YtoeobcmmafncmaaGreatDoorSac
import Derived.Laws.IdiomStrings
import Derived.Lib.SlBytesRow
import Derived.Deep.MidRow
import Derived.Test.YtoeobcmmafncmaaGreatDoorSaa
set_option maxRecDepth 1000000
set_option maxHeartbeats 16000000
namespace Go.Proofs.YtoeobcmmafncmaaGreatDoor
open Go.RowKit
def dgB (d:List Nat):List UInt8:=d.map fun n=>UInt8.ofNat n
def dgS (d:List Nat):ByteArray:=⟨(dgB d).toArray⟩
inductive Nd where
 | int (n:Int)
 | dig (d:List Nat)
def Nd.val:Nd→Value
 | .int n => .iface 3 (.int .i64 n)
 | .dig d => .iface 49 (.agg (byts d).toArray)
def Nd.it:Nd→It
 | .int n => .int n
 | .dig d => .text (dgS d)
def Nd.ok:Nd→Prop
 | .int n=>inI n
 | .dig d=>d.length=32∧okB d
theorem Nd.it_ok {x:Nd} (h:x.ok):x.it.ok:=by
 cases x with
 | int n=>exact h
 | dig d=>show (dgS d).size≤1000000;obtain ⟨h1,_⟩:=h;simp [dgS,dgB,ByteArray.size,h1]
theorem dgB_at {d:List Nat} (h:okB d) (j:Nat) (hj:j<(dgB d).length):((dgB d)[j].toNat:Int)=(d.getD j 0:Nat):=by
 have hj':j<d.length:=by simpa [dgB] using hj
 have:=h d[j] (List.getElem_mem hj')
 simp [dgB,hj',Nat.mod_eq_of_lt this]
theorem convert_dig {w:World} {g:Nat} {d:List Nat} (h:Blk w g 49 (byts d).toArray) (hl:d.length=32) (ho:okB d):(convert 123 9 (.slice (some ⟨g,0,none⟩) 32 32)).run Tryz.prog w = .ok (.string (dgS d)) w:=by
 have:=run_convert_bytes_back (P:=Tryz.prog) w 123 9 5 ⟨g,0,none⟩ 32 (dgB d) Tryz.underlying123 Tryz.underlying5 Tryz.underlying9 (fun j hj=>by
  have hj':j<d.length:=by simpa [dgB] using hj
  rw [addr_plus,Nat.zero_add,h.cell j,dgB_at ho j hj]
  simp [byts,hj'])
 rw [show (dgB d).length=32 by simp [dgB,hl]] at this
 exact this
theorem assert_int (m:Int) (w:World):(Instr.typeAssert (.iface 3 (.int .i64 m)) 20 3 true).run Tryz.prog w = .ok (.tuple #[.int .i64 m,.bool true]) w:=by kernel_rfl
theorem assert_int_no (cs:Array Value) (w:World):(Instr.typeAssert (.iface 49 (.agg cs)) 20 3 true).run Tryz.prog w = .ok (.tuple #[.int .i64 0,.bool false]) w:=by kernel_rfl
theorem assert_dig (cs:Array Value) (w:World):(Instr.typeAssert (.iface 49 (.agg cs)) 20 49 true).run Tryz.prog w = .ok (.tuple #[.agg cs,.bool true]) w:=by kernel_rfl
theorem pa_text (A:Option Addr) (n c:Nat) (l:List Nd) (W:World) (hA:Rd W W.heap.size 1 A n (l.map Nd.val)) (hok:∀ x∈l,x.ok) (hn:n≤100) :
  Calls Tryz.prog 128 #[.slice A n c] W (RetSl 1 (encN (l.map Nd.it)).length (byts (encN (l.map Nd.it))) W):=by
 obtain rfl:l.length=n:=by have:=hA.1;rw [List.length_map,Nat.mul_one] at this;exact this
 go_enter Tryz.func128,Tryz.ntmps128
 go_wp2_with fail
 have BV:=Blk.new W 162 #[.int .i64 3,.int .i64 0,.string ⟨#[]⟩,.slice none 0 0] _ rfl
 have hb:=bAl (bRefl W) (.cells #[.int .i64 3,.int .i64 0,.string ⟨#[]⟩,.slice none 0 0] 162)
 generalize W.alloc (.cells #[.int .i64 3,.int .i64 0,.string ⟨#[]⟩,.slice none 0 0] 162)=w1 at *
 go_loopw [13] (fun i wr=>∃ (k:Nat) (v:Value),k≤l.length∧i = .int .i64 k∧Below W.heap.size W wr∧Blk wr W.heap.size 162 #[.int .i64 3,.int .i64 0,.string ⟨#[]⟩,v]∧wr.ownsRow (W.heap.size+1) 162 4 v k (((l.take k).map Nd.it).flatMap It.cells)) (fun i _=>l.length - (intOf i).toNat)
 case atStart=>exact ⟨0,_,Nat.zero_le _,rfl,hb,BV,World.ownsRow_nil _ _ _ _⟩
 case round =>
  clear hb BV
  obtain ⟨k,v,hk,rfl,hb,BV,hown⟩:=hrel
  have c3:wr.cell? ⟨W.heap.size,3,none⟩=some v:=BV.cell 3
  have z3:=BV.frozen 3
  by_cases hlt:k<l.length
  ·obtain ⟨x,hx⟩:∃ x,Hid (l[k]?=some x):=⟨_,Lib.hid (List.getElem?_eq_getElem hlt)⟩
   obtain ⟨b,off,rfl,hbb,hc⟩:=(hA.below hb).2 (by omega)
   have d0:wr.cell? ⟨b,off+k,none⟩=some x.val:=hc k _ (by rw [List.getElem?_map,hx.out];rfl)
   clear hc
   have hsn:Hid (((l.take (k+1)).map Nd.it).flatMap It.cells=((l.take k).map Nd.it).flatMap It.cells++x.it.cells):=by
    obtain ⟨hk,rfl⟩:=List.getElem?_eq_some_iff.1 hx.out
    show _=_
    rw [List.take_succ_eq_append_getElem hk,List.map_append,List.flatMap_append];simp
   have hbs:W.heap.size+1≤wr.heap.size:=BV.lt
   have h63:k+1≤maxLen:=by unfold maxLen;omega
   have hby:(k+1)*56≤140737488355328:=by omega
   have hxok:=hok x (List.mem_of_getElem? hx.out)
   cases x with
   | int m =>
    have hone:=it_one (.int m)
    have ta:=assert_int m
    change wr.cell? ⟨b,off+k,none⟩=some (.iface 3 (.int .i64 m)) at d0
    go_wp2_with (at_builtin;refine wpList_append1G wr [.int .i64 1,.int .i64 m,.string ⟨#[]⟩,.slice none 0 0] (.tmp 22) (.tmp 25) 160 (W.heap.size+1) 162 (.agg #[.int .i64 0,.int .i64 0,.string ⟨#[]⟩,.slice none 0 0]) 4 56 v k (((l.take k).map Nd.it).flatMap It.cells) rfl rfl Tryz.underlying160 value_info rfl (by omega) rfl hown rfl rfl hone h63 hby hbs ?_;intro v' w' hown4 hg4;obtain ⟨g',cap',rfl⟩:=ownsRow_succ hown4;have b4:=hg4.below hown hbs;have BV4:=BV.below b4 (by omega);have c4:=val_cell BV4;have z4:=BV4.frozen 3)
    exact ⟨⟨k+1,_,by omega,by go_num,bSet (hb.trans (b4.mono (by omega))) (Nat.le_refl _) _,BV4.set_ 3 _,by rw [hsn.out];exact ownsRow_set hown4 (p:=⟨W.heap.size,3,none⟩) (by show W.heap.size<W.heap.size+1;omega) _⟩,by simp [intOf];omega⟩
   | dig d =>
    change wr.cell? ⟨b,off+k,none⟩=some (.iface 49 (.agg (byts d).toArray)) at d0
    have ta:=assert_int_no (byts d).toArray
    have tb:=assert_dig (byts d).toArray
    obtain ⟨hd1,hd2⟩:=hxok
    have st1:=store_dig d hd1
    have hbl:(byts d).length=32:=by rw [byts_length,hd1]
    go_upto_region 11 with fail
    have BD:=Blk.new wr 49 (byts d).toArray _ rfl
    have BV1:=BV.alloc (.cells (byts d).toArray 49)
    have hown1:=hown.alloc (.cells (byts d).toArray 49)
    have hb1:=bAl hb (.cells (byts d).toArray 49)
    have hs1:W.heap.size+1≤(wr.alloc (.cells (byts d).toArray 49)).heap.size:=by simp;omega
    generalize wr.alloc (.cells (byts d).toArray 49)=w2 at *
    generalize wr.heap.size=g7 at *
    have KS:Hid (∀ w',Below w2.heap.size w2 w'→_):=Lib.hid (fun w' h=>And.intro (val_cell (BV1.below h BV1.lt)) (convert_dig (BD.below h BD.lt) hd1 hd2))
    clear c3 z3 d0 ta tb st1 hbl
    refine wp_region_maskB (f:=6) (n:=1) KS [1,2,1,2,1,0,0,0,0] ?_
    simp only [pickH,pickT]
    refine wpHeads_t ?_
    refine wpHeads_r ?_
    refine wpHeads_t ?_
    refine wpHeads_r ?_
    refine wpHeads_t ?_
    refine wpHeads_nil ?_
    iterate 1 (refine wpTailS_cons (fun K hK=>?_);go_simp;(first | (fail) | skip);refine mask_go hK KS ?_;clear hK K)
    refine wpTailS_zero ?_
    have hone:=it_one (.text (dgS d))
    change wpList _ _ _ _ _ (w2.drew.alloc (.cells #[.int .i64 2,.int .i64 0,.string (dgS d),.slice none 0 0] 162))
    replace hown1:w2.drew.ownsRow (W.heap.size+1) 162 4 v k (((l.take k).map Nd.it).flatMap It.cells):=hown1
    replace BV1:=Blk.dr BV1
    replace hb1:=bDr hb1
    replace hs1:W.heap.size+1≤w2.drew.heap.size:=hs1
    clear KS BD
    refine wpList_append1G w2.drew [.int .i64 2,.int .i64 0,.string (dgS d),.slice none 0 0] (.tmp 32) (.tmp 36) 160 (W.heap.size+1) 162 (.agg #[.int .i64 0,.int .i64 0,.string ⟨#[]⟩,.slice none 0 0]) 4 56 v k (((l.take k).map Nd.it).flatMap It.cells) (by rfl) (by rfl) Tryz.underlying160 value_info rfl (by omega) (by rfl) hown1 (by rfl) rfl hone h63 hby hs1 ?_
    intro v' w' hown4 hg4
    obtain ⟨g',cap',rfl⟩:=ownsRow_succ hown4
    have b4:=hg4.below hown1 hs1
    have BV4:=BV1.below b4 (by omega)
    have c4:=val_cell BV4
    have z4:=BV4.frozen 3
    go_wp2_with fail
    refine NoPanic.normal ?_
    go_wp2_with fail
    exact ⟨⟨k+1,_,by omega,by go_num,bSet (hb1.trans (b4.mono (by omega))) (Nat.le_refl _) _,BV4.set_ 3 _,by rw [hsn.out];exact ownsRow_set hown4 (p:=⟨W.heap.size,3,none⟩) (by show W.heap.size<W.heap.size+1;omega) _⟩,by simp [intOf];omega⟩
  ·have hkn:k=l.length:=by omega
   rw [hkn,List.take_length] at hown
   clear hkn
   obtain ⟨A2,c2,hv,hR,_⟩:=Sl.of_own hown
   subst hv
   have e0:wr.cell? ⟨W.heap.size,0,none⟩=some (.int .i64 3):=BV.cell 0
   have e1:wr.cell? ⟨W.heap.size,1,none⟩=some (.int .i64 0):=BV.cell 1
   have e2:wr.cell? ⟨W.heap.size,2,none⟩=some (.string ⟨#[]⟩):=BV.cell 2
   have q:=encode_list A2 l.length c2 (l.map Nd.it) wr hR (by
    intro x hx
    obtain ⟨y,hy,rfl⟩:=List.mem_map.1 hx
    exact Nd.it_ok (hok y hy)) (by omega)
   unfold listV at q
   go_wp2_with fail
   with_reducible refine q.mono ?_
   rintro e w5 ⟨v,rfl,b5,hv⟩
   have hb5:=bCall hb b5
   go_wp2_with fail
   go_ret
   exact ⟨_,rfl,hb5,hv⟩
structure Opn where
 at_:Int
 r0:Int
 r1:Int
 r2:Int
 salt:List Nat
def Opn.cl (o:Opn):List Value:=[.int .i64 o.at_,.int .i64 o.r0,.int .i64 o.r1,.int .i64 o.r2]++byts o.salt
def Opn.its (o:Opn):List Nd:=[.int o.at_,.int o.r0,.int o.r1,.int o.r2,.dig o.salt]
def Opn.ok (o:Opn):Prop:=inI o.at_∧inI o.r0∧inI o.r1∧inI o.r2∧o.salt.length=32∧okB o.salt
def commitsB (d:List Nat) (side:ByteArray) (o:Opn):Bool:=decide (d=taggedN (sb side) (encN (o.its.map Nd.it)))
theorem exec_load {P:Program} {o:Oper} {a:Act} {ty:TypeId} {x:Operand} {q v:Value} {w:World} (ho:o.op = .load ty x) (hx:a.eval x=q) (h:(Instr.loadAt ty q).run P w = .ok v w):(execOp a.eval o).run P w = .ok (.value v) w:=by
 unfold execOp
 rw [ho]
 simp only [Sem.run_bind,hx,h,Result.andThen_ok,Sem.run_pure]
theorem load_mid {w:World} {g o:Nat} {t:TypeId} {cs:Array Value} (h:Blk w g t cs) (d:List Nat) (hd:d.length=32) (hc:∀ j v,(byts d)[j]?=some v→cs[o+j]?=some v) :
  (Instr.loadAt 49 (.pointer (some ⟨g,o,none⟩))).run Tryz.prog w = .ok (.agg (byts d).toArray) w :=
 run_loadAt_mid w g o 49 (byts d) _ (fun j v hj=>by
  have:=hc j v hj
  rw [←h.cell] at this
  exact this) dig_under rfl (by rw [byts_length,hd];exact dig_info)
theorem and6 {a b c d e f:Prop} (h1:a) (h2:b) (h3:c) (h4:d) (h5:e) (h6:f):a∧b∧c∧d∧e∧f:=⟨h1,h2,h3,h4,h5,h6⟩
theorem pa_commits (d:List Nat) (side:ByteArray) (o:Opn) (W:World) (hd:d.length=32) (ho:o.ok) (hside:side.size≤1000) (hG:ShaG W) :
  Calls Tryz.prog 96 #[.agg (byts d).toArray,.string side,.agg o.cl.toArray] W (Ret (.bool (commitsB d side o)) W):=by
 have B1:Blk ((W.alloc (.cells (byts d).toArray 49)).alloc (.cells o.cl.toArray 84)) W.heap.size 49 (byts d).toArray:=(Blk.new W _ _ _ rfl).alloc _
 have B2:Blk ((W.alloc (.cells (byts d).toArray 49)).alloc (.cells o.cl.toArray 84)) (W.heap.size+1) 84 o.cl.toArray:=Blk.new _ _ _ _ (by simp)
 have hb:=bAl (bAl (bRefl W) (.cells (byts d).toArray 49)) (.cells o.cl.toArray 84)
 go_enter Tryz.func96,Tryz.ntmps96
 go_upto_region 1 with fail
 generalize (W.alloc (.cells (byts d).toArray 49)).alloc (.cells o.cl.toArray 84)=w2 at *
 obtain ⟨o1,o2,o3,o4,o5,o6⟩:=ho
 have KS:Hid (∀ w',Below w2.heap.size w2 w'→_):=Lib.hid (fun w' h=>and6 (load_mid (B1.below h B1.lt) (o:=0) d hd (fun j v hj=>by rw [Nat.zero_add];simpa using hj)) (load_mid (B2.below h B2.lt) (o:=4) o.salt o5 (fun j v hj=>by
   have h4:(4+j) - 4=j:=by omega
   simp only [Opn.cl,List.getElem?_toArray]
   rw [List.getElem?_append_right (by simp),List.length_cons,List.length_cons,List.length_cons,List.length_cons,List.length_nil]
   rw [show 4+j - (0+1+1+1+1)=j by omega];exact hj))
  ((B2.below h B2.lt).cell 0) ((B2.below h B2.lt).cell 1) ((B2.below h B2.lt).cell 2) ((B2.below h B2.lt).cell 3))
 have q1:Hid (∀ w:World,Calls Tryz.prog 128 #[.slice (some ⟨w.heap.size,0,none⟩) 5 5] (w.alloc (.cells #[.iface 3 (.int .i64 o.at_),.iface 3 (.int .i64 o.r0),.iface 3 (.int .i64 o.r1),.iface 3 (.int .i64 o.r2),.iface 49 (.agg (byts o.salt).toArray)] 20)).drew (RetSl 1 (encN (o.its.map Nd.it)).length (byts (encN (o.its.map Nd.it))) (w.alloc (.cells #[.iface 3 (.int .i64 o.at_),.iface 3 (.int .i64 o.r0),.iface 3 (.int .i64 o.r1),.iface 3 (.int .i64 o.r2),.iface 49 (.agg (byts o.salt).toArray)] 20)).drew)):=by
  intro w
  exact pa_text (some ⟨w.heap.size,0,none⟩) 5 5 o.its (w.drew.alloc (.cells (o.its.map Nd.val).toArray 20)) (Rd.new w.drew _ _ 1 5 _ rfl rfl) (by
   intro x hx
   simp only [Opn.its,List.mem_cons,List.not_mem_nil,or_false] at hx
   rcases hx with rfl | rfl | rfl | rfl | rfl
   ·exact o1
   ·exact o2
   ·exact o3
   ·exact o4
   ·exact ⟨o5,o6⟩) (by omega)
 have hits:∀ x∈o.its.map Nd.it,x.ok:=by
  intro x hx
  obtain ⟨y,hy,rfl⟩:=List.mem_map.1 hx
  refine Nd.it_ok ?_
  simp only [Opn.its,List.mem_cons,List.not_mem_nil,or_false] at hy
  rcases hy with rfl | rfl | rfl | rfl | rfl
  ·exact o1
  ·exact o2
  ·exact o3
  ·exact o4
  ·exact ⟨o5,o6⟩
 have hlen:=encN_len hits (by simp [Opn.its])
 have Hits:=Lib.hid hlen
 clear hits hlen
 have hokE:=okB_encN (o.its.map Nd.it)
 obtain ⟨v,hv⟩:∃ v,v=commitsB d side o:=⟨_,rfl⟩
 have hv0:=Lib.hid hv
 unfold commitsB at hv
 have hTl:=taggedN_len (sb side) (encN (o.its.map Nd.it))
 generalize encN (o.its.map Nd.it)=E at *
 have q2:Hid (∀ (A:Option Addr) (c:Nat) (w:World),Below w2.heap.size w2 w→(Rd w w.heap.size 1 A E.length (byts E)∧E.length≤c∧c≤9223372036854775807∧(A=none→E.length=0∧c=0))→Calls Tryz.prog 98 #[.string side,.slice A E.length c] w (Ret (.agg (byts (taggedN (sb side) E)).toArray) w)):=fun A c w hw hs =>
  tagged_any side A E.length c E w hs.1 hs.2.2.2 hokE (by omega) (Nat.le_trans Hits.out (by decide)) (hG.below (bCall hb hw))
 have hq:=run_eqD d (taggedN (sb side) E) hd hTl
 have Hv:=Lib.hid hv
 clear hv hTl
 generalize taggedN (sb side) E=T at *
 refine wp_region_maskB (S:=fun w'=>(Instr.loadAt 49 (.pointer (some ⟨W.heap.size,0,none⟩))).run Tryz.prog w' = .ok (.agg (byts d).toArray) w'∧(Instr.loadAt 49 (.pointer (some ⟨W.heap.size+1,4,none⟩))).run Tryz.prog w' = .ok (.agg (byts o.salt).toArray) w'∧w'.cell? ⟨W.heap.size+1,0,none⟩=some (.int .i64 o.at_)∧w'.cell? ⟨W.heap.size+1,1,none⟩=some (.int .i64 o.r0)∧w'.cell? ⟨W.heap.size+1,2,none⟩=some (.int .i64 o.r1)∧w'.cell? ⟨W.heap.size+1,3,none⟩=some (.int .i64 o.r2)) (f:=24) (n:=4) KS [2,1,1,2,1,1,1,2,1,1,1,2,1,1,1,2,1,1,2,1,0,0,0,0,0] ?_
 simp only [pickH,pickT]
 refine wpHeads_r (v:=?v1) (hv:=?h1) ?_;case h1=>(intro w hSw;(first | refine (exec_load rfl rfl hSw.1).trans ?_ | refine (exec_load rfl rfl hSw.2.1).trans ?_ | refine (exec_load rfl rfl hSw.2.2.1).trans ?_ | refine (exec_load rfl rfl hSw.2.2.2.1).trans ?_);with_reducible rfl)
 iterate 2 refine wpHeads_t ?_
 refine wpHeads_r ?_
 iterate 3 refine wpHeads_t ?_
 refine wpHeads_r ?_
 iterate 3 refine wpHeads_t ?_
 refine wpHeads_r ?_
 iterate 3 refine wpHeads_t ?_
 refine wpHeads_r ?_
 iterate 2 refine wpHeads_t ?_
 refine wpHeads_r (v:=?v2) (hv:=?h2) ?_;case h2=>(intro w hSw;(first | refine (exec_load rfl rfl hSw.1).trans ?_ | refine (exec_load rfl rfl hSw.2.1).trans ?_ | refine (exec_load rfl rfl hSw.2.2.1).trans ?_ | refine (exec_load rfl rfl hSw.2.2.2.1).trans ?_);with_reducible rfl)
 refine wpHeads_t ?_
 refine wpHeads_nil ?_
 iterate 4 (refine wpTailS_cons (fun K hK=>?_);go_simp;(first | (go_at_call 98;(with_reducible refine (q2.out _ _ _ B3 hsl).mono ?_);rintro e w6 ⟨rfl,b6⟩;have B4:Below w2.heap.size w2 w6:=bCall B3 b6) | (go_at_call 128;(with_reducible refine (q1.out _).mono ?_);rintro e w5 ⟨v5,rfl,b5,A5,c5,rfl,hsl⟩;have B3:Below w2.heap.size w2 w5:=bCall (by repeat (first | exact bRefl _ | refine bAl ?_ _ | refine bDr ?_)) b5) | skip);refine mask_go hK KS ?_;clear hK K)
 refine wpTailS_zero ?_
 go_wp2_with fail
 refine NoPanic.normal ?_
 go_wp2_with fail
 go_ret
 exact ⟨ret_bool (Hv.out.symm.trans hv0.out),bCall hb B4⟩
def formedB (n m st:Nat) (first:List Ltr) (place:Int):Bool:=decide (2≤n)&&(decide (n≤9)&&(decide (m=n)&&(decide (st≤n)&&(decide (first.length≠0)&&(decide (first.length≤64)&&(first.all Ltr.good&&decide (0≤place∧place<first.length)))))))
theorem pa_formed (cs:Array Value) (first:List Ltr) (n m st c2 c3 c4:Nat) (A2 A3 A4:Option Addr) (place:Int) (W:World) (hF:LsAt W W.heap.size cs[3]? first) (h4:cs[4]?=some (.slice A2 n c2)) (h5:cs[5]?=some (.slice A3 m c3)) (h13:cs[13]?=some (.slice A4 st c4)) (h6:cs[6]?=some (.int .i64 place)) :
  Calls Tryz.prog 22 #[.agg cs] W (Ret (.bool (formedB n m st first place)) W):=by
 obtain ⟨A,c,h3,hA,_,hcm⟩:=hF
 obtain ⟨v,hv⟩:∃ v,v=formedB n m st first place:=⟨_,rfl⟩
 rw [←hv]
 unfold formedB at hv
 have B:=Blk.new W 33 cs _ rfl
 have hb:=bAl (bRefl W) (.cells cs 33)
 have k3:=(B.cell 3).trans h3
 have k4:=(B.cell 4).trans h4
 have k5:=(B.cell 5).trans h5
 have k6:=(B.cell 6).trans h6
 have k13:=(B.cell 13).trans h13
 clear h4 h5 h13
 go_enter Tryz.func22,Tryz.ntmps22
 go_upto_region 1 with fail
 generalize W.alloc (.cells cs 33)=w1 at *
 by_cases t1:2≤n
 case neg =>
  have Hv:Hid (v=false):=by show _=_;rw [hv,decide_eq_false t1];simp
  have e1:decide ((n:Int)<2)=true:=by rw [decide_eq_true];omega
  clear t1
  clear hv
  go_wp2_with fail
  go_ret
  exact ⟨ret_bool Hv.out.symm,hb⟩
 have e1:decide ((n:Int)<2)=false:=by rw [decide_eq_false];omega
 by_cases t2:n≤9
 case neg =>
  have Hv:Hid (v=false):=by show _=_;rw [hv,decide_eq_false t2];simp
  have e2:decide (9<(n:Int))=true:=by rw [decide_eq_true];omega
  clear t1 t2
  clear hv
  go_wp2_with fail
  go_ret
  exact ⟨ret_bool Hv.out.symm,hb⟩
 have e2:decide (9<(n:Int))=false:=by rw [decide_eq_false];omega
 by_cases t3:m=n
 case neg =>
  have Hv:Hid (v=false):=by show _=_;rw [hv,decide_eq_false t3];simp
  have e3:((m:Int) != (n:Int))=true:=by rw [bne_iff_ne];omega
  clear t1 t2
  clear hv
  go_wp2_with fail
  go_ret
  exact ⟨ret_bool Hv.out.symm,hb⟩
 have e3:((m:Int) != (n:Int))=false:=by rw [bne_eq_false_iff_eq];omega
 by_cases t4:st≤n
 case neg =>
  have Hv:Hid (v=false):=by show _=_;rw [hv,decide_eq_false t4];simp
  have e4:decide ((n:Int)<(st:Int))=true:=by rw [decide_eq_true];omega
  have e4':decide (n<st)=true:=by rw [decide_eq_true];omega
  clear t1 t2 t4
  clear hv
  go_wp2_with fail
  go_ret
  exact ⟨ret_bool Hv.out.symm,hb⟩
 have e4:decide ((n:Int)<(st:Int))=false:=by rw [decide_eq_false];omega
 have e4':decide (n<st)=false:=by rw [decide_eq_false];omega
 by_cases t5:first.length≠0
 case neg =>
  have Hv:Hid (v=false):=by show _=_;rw [hv,decide_eq_false t5];simp
  have e5:((first.length:Int)==0)=true:=by rw [beq_iff_eq];omega
  clear t1 t2 t4 t5
  clear hv
  go_wp2_with fail
  go_ret
  exact ⟨ret_bool Hv.out.symm,hb⟩
 have e5:((first.length:Int)==0)=false:=by rw [beq_eq_false_iff_ne];omega
 by_cases t6:first.length≤64
 case neg =>
  have Hv:Hid (v=false):=by show _=_;rw [hv,decide_eq_false t6];simp
  have e6:decide (64<(first.length:Int))=true:=by rw [decide_eq_true];omega
  clear t1 t2 t4 t5 t6
  clear hv
  go_wp2_with fail
  go_ret
  exact ⟨ret_bool Hv.out.symm,hb⟩
 have e6:decide (64<(first.length:Int))=false:=by rw [decide_eq_false];omega
 have Hv:Hid (v=(first.all Ltr.good&&decide (0≤place∧place<first.length))):=by
  show _=_
  rw [hv,decide_eq_true t1,decide_eq_true t2,decide_eq_true t3,decide_eq_true t4,decide_eq_true t5,decide_eq_true t6];rfl
 have hlen:=t6
 clear hv t1 t2 t3 t4 t5 t6
 go_wp2_with fail
 go_loopw [45] (fun i wr=>∃ k:Nat,k≤first.length∧i = .int .i64 k∧Below W.heap.size W wr∧Blk wr W.heap.size 33 cs∧Hid (∀ y∈first.take k,y.good=true)) (fun i _=>first.length - (intOf i).toNat)
 case atStart=>exact ⟨0,Nat.zero_le _,rfl,hb,B,Lib.hid (by simp)⟩
 case round =>
  clear k3 k4 k5 k6 k13 B hb e1 e2 e3 e4 e4' e5 e6
  obtain ⟨k,hkn,rfl,hb,B,hp⟩:=hrel
  by_cases hlt:k<first.length
  ·obtain ⟨x,hx⟩:∃ x,Hid (first[k]?=some x):=⟨_,Lib.hid (List.getElem?_eq_getElem hlt)⟩
   obtain ⟨b,off,rfl,hbb,d0,d1,d2,d3,d4,d5⟩:=Ltr_at (hA.below hb) hlt hx.out
   have b2:=bAl (bRefl wr) (.cells #[.int .i64 x.a0,.int .i64 x.b0,.int .i64 x.a1,.int .i64 x.b1,.int .i64 x.a2,.int .i64 x.b2] 70)
   have q:=el_check x (wr.alloc (.cells #[.int .i64 x.a0,.int .i64 x.b0,.int .i64 x.a1,.int .i64 x.b1,.int .i64 x.a2,.int .i64 x.b2] 70))
   have he:x.err=if x.good=true then 0 else 100:=rfl
   cases hg:x.good
   ·have Hv2:Hid (v=false):=by
     show _=_
     rw [Hv.out]
     have:first.all Ltr.good=false:=List.all_eq_false.2 ⟨x,List.mem_of_getElem? hx.out,by rw [hg];simp⟩
     rw [this];rfl
    rw [hg] at he
    simp at he
    rw [he] at q
    clear he hg
    go_wp2_with fail
    (with_reducible refine q.mono ?_)
    rintro e w3 ⟨rfl,b3⟩
    clear q
    go_wp2_with fail
    go_ret
    exact ⟨ret_bool Hv2.out.symm,bCall (bCall hb b2) b3⟩
   ·have hp':Hid (∀ y∈first.take (k+1),y.good=true):=by
     intro y hy
     obtain ⟨hk,rfl⟩:=List.getElem?_eq_some_iff.1 hx.out
     rw [List.take_succ_eq_append_getElem hk] at hy
     rcases List.mem_append.1 hy with hy | hy
     ·exact hp.out y hy
     ·obtain rfl:y=first[k]:=by simpa using hy
      exact hg
    rw [hg] at he
    simp at he
    rw [he] at q
    clear he hg
    go_wp2_with fail
    (with_reducible refine q.mono ?_)
    rintro e w3 ⟨rfl,b3⟩
    clear q
    go_wp2_with fail
    exact ⟨⟨k+1,by omega,by go_num,bCall (bCall hb b2) b3,B.below (bCall b2 b3) B.lt,hp'⟩,by simp [intOf];omega⟩
  ·have hall:first.all Ltr.good=true:=List.all_eq_true.2 (by have:=hp.out;rw [List.take_of_length_le (by omega)] at this;exact this)
   have Hv2:Hid (v=decide (0≤place∧place<first.length)):=by show _=_;rw [Hv.out,hall];rfl
   have k3:=(B.cell 3).trans h3
   have k6:=(B.cell 6).trans h6
   clear hall Hv
   by_cases p1:0≤place
   ·go_wp2_with fail
    go_ret
    refine ⟨ret_bool ?_,hb⟩
    rw [Hv2.out,Bool.eq_iff_iff];simp [p1]
   ·have Hv3:Hid (v=false):=by show _=_;rw [Hv2.out,decide_eq_false];omega
    go_wp2_with fail
    go_ret
    exact ⟨ret_bool Hv3.out.symm,hb⟩
theorem flat_mem {α:Type} {f:α→List Value} {sz:Nat} : ∀ (l:List α) (i j:Nat) (x:α),(∀ y∈l,(f y).length=sz)→l[i]?=some x→j<sz→(l.flatMap f)[i*sz+j]?=(f x)[j]?
 | [],i,j,x,_,h,_=>by simp at h
 | y::l,0,j,x,hf,h,hj=>by
  simp only [List.getElem?_cons_zero,Option.some.injEq] at h
  subst h
  rw [List.flatMap_cons,Nat.zero_mul,Nat.zero_add,List.getElem?_append_left (by rw [hf _ (by simp)];exact hj)]
 | y::l,i+1,j,x,hf,h,hj=>by
  simp only [List.getElem?_cons_succ] at h
  rw [List.flatMap_cons,List.getElem?_append_right (by rw [hf _ (by simp),Nat.succ_mul];omega),hf _ (by simp)]
  have:(i+1)*sz+j - sz=i*sz+j:=by rw [Nat.succ_mul];omega
  rw [this]
  exact flat_mem l i j x (fun z hz=>hf z (List.mem_cons_of_mem _ hz)) h hj
theorem flat_length {α:Type} {f:α→List Value} {sz:Nat} : ∀ (l:List α),(∀ y∈l,(f y).length=sz)→(l.flatMap f).length=l.length*sz
 | [],_=>by simp
 | y::l,h=>by rw [List.flatMap_cons,List.length_append,h y (by simp),flat_length l (fun z hz=>h z (List.mem_cons_of_mem _ hz)),List.length_cons,Nat.succ_mul];omega
end Go.Proofs.YtoeobcmmafncmaaGreatDoor

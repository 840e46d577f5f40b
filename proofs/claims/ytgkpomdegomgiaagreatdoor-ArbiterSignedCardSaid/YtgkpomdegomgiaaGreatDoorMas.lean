/- paths.leads: a letter that is sealed again, compared. -/
import Derived.Test.YtgkpomdegomgiaaGreatDoorMar
import Derived.Test.YtgkpomdegomgiaaGreatDoorMac
import Derived.Laws.IdiomStrings
import Derived.Lib.SlBytesRow
set_option maxRecDepth 1000000
set_option maxHeartbeats 16000000
namespace Go.Proofs.YtgkpomdegomgiaaGreatDoor
open Go.RowKit
def leadsB (key:Int) (a b:Ltr) (r0 r1 r2:Int):Bool:=decide (againE key a=0)&&(againV key a r0 r1 r2).eqB b
theorem pa_leads (key:Int) (a b:Ltr) (r0 r1 r2:Int) (W:World) :
    Calls Tryz.prog 121 #[.int .i64 key,a.agg,b.agg,.agg #[.int .i64 r0,.int .i64 r1,.int .i64 r2]] W (Ret (.bool (leadsB key a b r0 r1 r2)) W):=by
  obtain ⟨W3,hW3⟩:∃ W3,W3=((W.alloc (.cells #[.int .i64 a.a0,.int .i64 a.b0,.int .i64 a.a1,.int .i64 a.b1,.int .i64 a.a2,.int .i64 a.b2] 70)).alloc (.cells #[.int .i64 b.a0,.int .i64 b.b0,.int .i64 b.a1,.int .i64 b.b1,.int .i64 b.a2,.int .i64 b.b2] 70)).alloc (.cells #[.int .i64 r0,.int .i64 r1,.int .i64 r2] 27):=⟨_,rfl⟩
  have h3:Below W.heap.size W W3:=by rw [hW3];exact bAl (bAl (bAl (bRefl W) _) _) _
  have BA:Blk W3 W.heap.size 70 #[.int .i64 a.a0,.int .i64 a.b0,.int .i64 a.a1,.int .i64 a.b1,.int .i64 a.a2,.int .i64 a.b2]:=by rw [hW3];exact ((Blk.new _ _ _ _ rfl).alloc _).alloc _
  have BB:Blk W3 (W.heap.size+1) 70 #[.int .i64 b.a0,.int .i64 b.b0,.int .i64 b.a1,.int .i64 b.b1,.int .i64 b.a2,.int .i64 b.b2]:=by rw [hW3];exact (Blk.new _ _ _ _ (by simp)).alloc _
  have BR:Blk W3 (W.heap.size+1+1) 27 #[.int .i64 r0,.int .i64 r1,.int .i64 r2]:=by rw [hW3];exact Blk.new _ _ _ _ (by simp)
  have q:=el_again key a r0 r1 r2 W3
  obtain ⟨v,hv⟩:∃ v,v=leadsB key a b r0 r1 r2:=⟨_,rfl⟩
  rw [←hv]
  obtain ⟨k0,k1,k2,k3,k4,k5⟩:=BA.six
  obtain ⟨m0,m1,m2⟩:=three BR
  unfold leadsB at hv
  go_enter Tryz.func121,Tryz.ntmps121
  unfold Ltr.agg at q ⊢
  go_upto_region 1 with fail
  rw [←hW3]
  clear hW3
  have Hv:=Lib.hid hv
  clear hv
  generalize againV key a r0 r1 r2=y at *
  generalize againE key a=e0 at *
  go_wp2_with fail
  (with_reducible refine q.mono ?_)
  rintro e w4 ⟨rfl,b4⟩
  clear q k0 k1 k2 k3 k4 k5 m0 m1 m2
  replace BB:=BB.below b4 BB.lt
  replace h3:=bCall h3 b4
  by_cases he:e0=0
  · have Hv2:Hid (v=y.eqB b):=by show _=_;rw [Hv.out,decide_eq_true he];rfl
    subst he
    have hq:=run_eqS y b
    unfold Ltr.agg at hq
    generalize y.eqB b=r at *
    obtain ⟨k0,k1,k2,k3,k4,k5⟩:=(BB.alloc (.cells #[.int .i64 y.a0,.int .i64 y.b0,.int .i64 y.a1,.int .i64 y.b1,.int .i64 y.a2,.int .i64 y.b2] 70)).six
    have h4:=bAl h3 (.cells #[.int .i64 y.a0,.int .i64 y.b0,.int .i64 y.a1,.int .i64 y.b1,.int .i64 y.a2,.int .i64 y.b2] 70)
    clear Hv
    go_wp2_with fail
    go_ret
    exact ⟨ret_bool Hv2.out.symm,h4⟩
  · have t:(e0==0)=false:=by rw [beq_eq_false_iff_ne];exact he
    have Hv2:Hid (v=false):=by show _=_;rw [Hv.out,decide_eq_false he];rfl
    clear he
    go_wp2_with fail
    go_ret
    exact ⟨ret_bool Hv2.out.symm,bAl h3 _⟩
def dgB (d:List Nat):List UInt8:=d.map fun n=>UInt8.ofNat n
def dgS (d:List Nat):ByteArray:=⟨(dgB d).toArray⟩
inductive Nd where
  | int (n:Int)
  | dig (d:List Nat)
def Nd.val:Nd→Value
  | .int n => .iface 3 (.int .i64 n)
  | .dig d => .iface 43 (.agg (byts d).toArray)
def Nd.it:Nd→It
  | .int n => .int n
  | .dig d => .text (dgS d)
def Nd.ok:Nd→Prop
  | .int n=>inI n
  | .dig d=>d.length=32∧okB d
theorem Nd.it_ok {x:Nd} (h:x.ok):x.it.ok:=by
  cases x with
  | int n=>exact h
  | dig d=>show (dgS d).size≤1000000;obtain ⟨h1,_⟩:=h;simp [dgS,dgB,ByteArray.size,h1]
theorem dgB_at {d:List Nat} (h:okB d) (j:Nat) (hj:j<(dgB d).length):((dgB d)[j].toNat:Int)=(d.getD j 0:Nat):=by
  have hj':j<d.length:=by simpa [dgB] using hj
  have:=h d[j] (List.getElem_mem hj')
  simp [dgB,hj',Nat.mod_eq_of_lt this]
theorem convert_dig {w:World} {g:Nat} {d:List Nat} (h:Blk w g 43 (byts d).toArray) (hl:d.length=32) (ho:okB d):(convert 106 9 (.slice (some ⟨g,0,none⟩) 32 32)).run Tryz.prog w = .ok (.string (dgS d)) w:=by
  have:=run_convert_bytes_back (P:=Tryz.prog) w 106 9 5 ⟨g,0,none⟩ 32 (dgB d) Tryz.underlying106 Tryz.underlying5 Tryz.underlying9 (fun j hj=>by
    have hj':j<d.length:=by simpa [dgB] using hj
    rw [addr_plus,Nat.zero_add,h.cell j,dgB_at ho j hj]
    simp [byts,hj'])
  rw [show (dgB d).length=32 by simp [dgB,hl]] at this
  exact this
theorem assert_int (m:Int) (w:World):(Instr.typeAssert (.iface 3 (.int .i64 m)) 20 3 true).run Tryz.prog w = .ok (.tuple #[.int .i64 m,.bool true]) w:=by kernel_rfl
theorem assert_int_no (cs:Array Value) (w:World):(Instr.typeAssert (.iface 43 (.agg cs)) 20 3 true).run Tryz.prog w = .ok (.tuple #[.int .i64 0,.bool false]) w:=by kernel_rfl
theorem assert_dig (cs:Array Value) (w:World):(Instr.typeAssert (.iface 43 (.agg cs)) 20 43 true).run Tryz.prog w = .ok (.tuple #[.agg cs,.bool true]) w:=by kernel_rfl
theorem pa_text (A:Option Addr) (n c:Nat) (l:List Nd) (W:World) (hA:Rd W W.heap.size 1 A n (l.map Nd.val)) (hok:∀ x∈l,x.ok) (hn:n≤100) :
    Calls Tryz.prog 145 #[.slice A n c] W (RetSl 1 (encN (l.map Nd.it)).length (byts (encN (l.map Nd.it))) W):=by
  obtain rfl:l.length=n:=by have:=hA.1;rw [List.length_map,Nat.mul_one] at this;exact this
  go_enter Tryz.func145,Tryz.ntmps145
  go_wp2_with fail
  have BV:=Blk.new W 145 #[.int .i64 3,.int .i64 0,.string ⟨#[]⟩,.slice none 0 0] _ rfl
  have hb:=bAl (bRefl W) (.cells #[.int .i64 3,.int .i64 0,.string ⟨#[]⟩,.slice none 0 0] 145)
  generalize W.alloc (.cells #[.int .i64 3,.int .i64 0,.string ⟨#[]⟩,.slice none 0 0] 145)=w1 at *
  go_loopw [13] (fun i wr=>∃ (k:Nat) (v:Value),k≤l.length∧i = .int .i64 k∧Below W.heap.size W wr∧Blk wr W.heap.size 145 #[.int .i64 3,.int .i64 0,.string ⟨#[]⟩,v]∧wr.ownsRow (W.heap.size+1) 145 4 v k (((l.take k).map Nd.it).flatMap It.cells)) (fun i _=>l.length - (intOf i).toNat)
  case atStart=>exact ⟨0,_,Nat.zero_le _,rfl,hb,BV,World.ownsRow_nil _ _ _ _⟩
  case round =>
    clear hb BV
    obtain ⟨k,v,hk,rfl,hb,BV,hown⟩:=hrel
    have c3:wr.cell? ⟨W.heap.size,3,none⟩=some v:=BV.cell 3
    have z3:=BV.frozen 3
    by_cases hlt:k<l.length
    · obtain ⟨x,hx⟩:∃ x,Hid (l[k]?=some x):=⟨_,Lib.hid (List.getElem?_eq_getElem hlt)⟩
      obtain ⟨b,off,rfl,hbb,hc⟩:=(hA.below hb).2 (by omega)
      have d0:wr.cell? ⟨b,off+k,none⟩=some x.val:=hc k _ (by rw [List.getElem?_map,hx.out];rfl)
      clear hc
      have hsn:Hid (((l.take (k+1)).map Nd.it).flatMap It.cells=((l.take k).map Nd.it).flatMap It.cells++x.it.cells):=by
        obtain ⟨hk,rfl⟩:=List.getElem?_eq_some_iff.1 hx.out
        show _=_
        rw [List.take_succ_eq_append_getElem hk,List.map_append,List.flatMap_append];simp
      have hbs:W.heap.size+1≤wr.heap.size:=BV.lt
      have h63:k+1≤maxLen:=by unfold maxLen;omega
      have hby:(k+1)*56≤140737488355328:=by omega
      have hxok:=hok x (List.mem_of_getElem? hx.out)
      cases x with
      | int m =>
        have hone:=it_one (.int m)
        have ta:=assert_int m
        change wr.cell? ⟨b,off+k,none⟩=some (.iface 3 (.int .i64 m)) at d0
        go_wp2_with (at_builtin;refine wpList_append1G wr [.int .i64 1,.int .i64 m,.string ⟨#[]⟩,.slice none 0 0] (.tmp 22) (.tmp 25) 143 (W.heap.size+1) 145 (.agg #[.int .i64 0,.int .i64 0,.string ⟨#[]⟩,.slice none 0 0]) 4 56 v k (((l.take k).map Nd.it).flatMap It.cells) rfl rfl Tryz.underlying143 value_info rfl (by omega) rfl hown rfl rfl hone h63 hby hbs ?_;intro v' w' hown4 hg4;obtain ⟨g',cap',rfl⟩:=ownsRow_succ hown4;have b4:=hg4.below hown hbs;have BV4:=BV.below b4 (by omega);have c4:=val_cell BV4;have z4:=BV4.frozen 3)
        exact ⟨⟨k+1,_,by omega,by go_num,bSet (hb.trans (b4.mono (by omega))) (Nat.le_refl _) _,BV4.set_ 3 _,by rw [hsn.out];exact ownsRow_set hown4 (p:=⟨W.heap.size,3,none⟩) (by show W.heap.size<W.heap.size+1;omega) _⟩,by simp [intOf];omega⟩
      | dig d =>
        change wr.cell? ⟨b,off+k,none⟩=some (.iface 43 (.agg (byts d).toArray)) at d0
        have ta:=assert_int_no (byts d).toArray
        have tb:=assert_dig (byts d).toArray
        obtain ⟨hd1,hd2⟩:=hxok
        have st1:=store_dig d hd1
        have hbl:(byts d).length=32:=by rw [byts_length,hd1]
        go_upto_region 11 with fail
        have BD:=Blk.new wr 43 (byts d).toArray _ rfl
        have BV1:=BV.alloc (.cells (byts d).toArray 43)
        have hown1:=hown.alloc (.cells (byts d).toArray 43)
        have hb1:=bAl hb (.cells (byts d).toArray 43)
        have hs1:W.heap.size+1≤(wr.alloc (.cells (byts d).toArray 43)).heap.size:=by simp;omega
        generalize wr.alloc (.cells (byts d).toArray 43)=w2 at *
        generalize wr.heap.size=g7 at *
        have KS:Hid (∀ w',Below w2.heap.size w2 w'→_):=Lib.hid (fun w' h=>And.intro (val_cell (BV1.below h BV1.lt)) (convert_dig (BD.below h BD.lt) hd1 hd2))
        clear c3 z3 d0 ta tb st1 hbl
        refine wp_region_maskB (f:=6) (n:=1) KS [1,2,1,2,1,0,0,0,0] ?_
        simp only [pickH,pickT]
        refine wpHeads_t ?_
        refine wpHeads_r ?_
        refine wpHeads_t ?_
        refine wpHeads_r ?_
        refine wpHeads_t ?_
        refine wpHeads_nil ?_
        iterate 1 (refine wpTailS_cons (fun K hK=>?_);go_simp;(first | (fail) | skip);refine mask_go hK KS ?_;clear hK K)
        refine wpTailS_zero ?_
        have hone:=it_one (.text (dgS d))
        change wpList _ _ _ _ _ (w2.drew.alloc (.cells #[.int .i64 2,.int .i64 0,.string (dgS d),.slice none 0 0] 145))
        replace hown1:w2.drew.ownsRow (W.heap.size+1) 145 4 v k (((l.take k).map Nd.it).flatMap It.cells):=hown1
        replace BV1:=Blk.dr BV1
        replace hb1:=bDr hb1
        replace hs1:W.heap.size+1≤w2.drew.heap.size:=hs1
        clear KS BD
        refine wpList_append1G w2.drew [.int .i64 2,.int .i64 0,.string (dgS d),.slice none 0 0] (.tmp 32) (.tmp 36) 143 (W.heap.size+1) 145 (.agg #[.int .i64 0,.int .i64 0,.string ⟨#[]⟩,.slice none 0 0]) 4 56 v k (((l.take k).map Nd.it).flatMap It.cells) (by rfl) (by rfl) Tryz.underlying143 value_info rfl (by omega) (by rfl) hown1 (by rfl) rfl hone h63 hby hs1 ?_
        intro v' w' hown4 hg4
        obtain ⟨g',cap',rfl⟩:=ownsRow_succ hown4
        have b4:=hg4.below hown1 hs1
        have BV4:=BV1.below b4 (by omega)
        have c4:=val_cell BV4
        have z4:=BV4.frozen 3
        go_wp2_with fail
        refine NoPanic.normal ?_
        go_wp2_with fail
        exact ⟨⟨k+1,_,by omega,by go_num,bSet (hb1.trans (b4.mono (by omega))) (Nat.le_refl _) _,BV4.set_ 3 _,by rw [hsn.out];exact ownsRow_set hown4 (p:=⟨W.heap.size,3,none⟩) (by show W.heap.size<W.heap.size+1;omega) _⟩,by simp [intOf];omega⟩
    · have hkn:k=l.length:=by omega
      rw [hkn,List.take_length] at hown
      clear hkn
      obtain ⟨A2,c2,hv,hR,_⟩:=Sl.of_own hown
      subst hv
      have e0:wr.cell? ⟨W.heap.size,0,none⟩=some (.int .i64 3):=BV.cell 0
      have e1:wr.cell? ⟨W.heap.size,1,none⟩=some (.int .i64 0):=BV.cell 1
      have e2:wr.cell? ⟨W.heap.size,2,none⟩=some (.string ⟨#[]⟩):=BV.cell 2
      have q:=encode_list A2 l.length c2 (l.map Nd.it) wr hR (by
        intro x hx
        obtain ⟨y,hy,rfl⟩:=List.mem_map.1 hx
        exact Nd.it_ok (hok y hy)) (by omega)
      unfold listV at q
      go_wp2_with fail
      with_reducible refine q.mono ?_
      rintro e w5 ⟨v,rfl,b5,hv⟩
      have hb5:=bCall hb b5
      go_wp2_with fail
      go_ret
      exact ⟨_,rfl,hb5,hv⟩
end Go.Proofs.YtgkpomdegomgiaaGreatDoor

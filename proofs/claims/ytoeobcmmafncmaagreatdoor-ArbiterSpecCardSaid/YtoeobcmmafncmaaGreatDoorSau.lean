/- The reference's digest: a block, walked. -/
import Derived.Test.YtoeobcmmafncmaaGreatDoorSat
import Derived.Test.YtoeobcmmafncmaaGreatDoorSae
set_option maxRecDepth 1000000
set_option maxHeartbeats 16000000
namespace Go.Proofs.YtoeobcmmafncmaaGreatDoor
open Go.RowKit
theorem byts_cell {w:World} {B n b off:Nat} {l:List Nat} (h:Rd w B 1 (some ⟨b,off,none⟩) n (byts l)) (hn:n≠0) {j x:Nat} (hx:l[j]?=some x):w.cell? ⟨b,off+j,none⟩=some (.int .u8 x):=by
 obtain ⟨b',off',e,_,hc⟩:=h.2 (by omega)
 injection e with e
 injection e with e1 e2
 subst e1;subst e2
 exact hc _ _ (byts_at hx)
theorem ch_nat (e f g:Nat) (hg:g<4294967296):(e &&& f) ^^^ ((4294967295 ^^^ e) &&& g)=g ^^^ (e &&& (f ^^^ g)):=by
 apply Nat.eq_of_testBit_eq
 intro i
 simp only [Nat.testBit_xor,Nat.testBit_and]
 have h1:(4294967295:Nat).testBit i=decide (i<32):=by
  rw [show (4294967295:Nat)=2 ^ 32 - 1 from rfl];exact Nat.testBit_two_pow_sub_one 32 i
 rw [h1]
 by_cases h:i<32
 ·rw [decide_eq_true h];cases e.testBit i <;> cases f.testBit i <;> cases g.testBit i <;> rfl
 ·have h2:g.testBit i=false:=Nat.testBit_lt_two_pow (Nat.lt_of_lt_of_le hg (Nat.pow_le_pow_right (n:=2) (by omega) (show 32≤i by omega)))
  rw [h2,decide_eq_false h];cases e.testBit i <;> cases f.testBit i <;> rfl
theorem maj_nat (a b c:Nat):(a &&& b) ^^^ (a &&& c) ^^^ (b &&& c)=(a &&& b) ||| (c &&& (a ||| b)):=by
 apply Nat.eq_of_testBit_eq
 intro i
 simp only [Nat.testBit_xor,Nat.testBit_and,Nat.testBit_or]
 cases a.testBit i <;> cases b.testBit i <;> cases c.testBit i <;> rfl
theorem w32 (z:Int):IntKind.u32.wrap z=z % 4294967296:=by rw [IntKind.wrap_u32]
theorem rP_int (s:S8) (k x:Nat) (he:s.e<4294967296) (hf:s.f<4294967296) (hg:s.g<4294967296) :
  IntKind.u32.wrap (IntKind.u32.wrap (IntKind.u32.wrap (IntKind.u32.wrap ((s.h:Int)+bits BinOp.xor IntKind.u32 (bits BinOp.xor IntKind.u32 (rotN s.e 6:Nat) (rotN s.e 11:Nat)) (rotN s.e 25:Nat))+bits BinOp.xor IntKind.u32 (bits BinOp.and IntKind.u32 (s.e:Int) (s.f:Int)) (bits BinOp.and IntKind.u32 (bits BinOp.xor IntKind.u32 IntKind.u32.max (s.e:Int)) (s.g:Int)))+(k:Int))+(x:Int))=((roundP s k x:Nat):Int):=by
 have hm:IntKind.u32.max=((4294967295:Nat):Int):=rfl
 have l1:=xor_lt (rotN_lt (a:=6) he) (rotN_lt (a:=11) he)
 have l2:4294967295 ^^^ s.e<4294967296:=xor_lt (by omega) he
 rw [hm,xor_nat _ _ (rotN_lt he) (rotN_lt he),xor_nat _ _ l1 (rotN_lt he),xor_nat _ _ (by omega) he,and_nat _ _ l2 hg,and_nat _ _ he hf,xor_nat _ _ (and_lt he) (and_lt l2),ch_nat _ _ _ hg]
 simp only [w32]
 unfold roundP rot3
 omega
theorem rQ_int (s:S8) (ha:s.a<4294967296) (hb:s.b<4294967296) (hc:s.c<4294967296) :
  (bits BinOp.xor IntKind.u32 (bits BinOp.xor IntKind.u32 (rotN s.a 2:Nat) (rotN s.a 13:Nat)) (rotN s.a 22:Nat)+bits BinOp.xor IntKind.u32 (bits BinOp.xor IntKind.u32 (bits BinOp.and IntKind.u32 (s.a:Int) (s.b:Int)) (bits BinOp.and IntKind.u32 (s.a:Int) (s.c:Int))) (bits BinOp.and IntKind.u32 (s.b:Int) (s.c:Int))) % 4294967296=((roundQ s:Nat):Int):=by
 have l1:=xor_lt (rotN_lt (a:=2) ha) (rotN_lt (a:=13) ha)
 rw [xor_nat _ _ (rotN_lt ha) (rotN_lt ha),xor_nat _ _ l1 (rotN_lt ha),and_nat _ _ ha hb,and_nat _ _ ha hc,and_nat _ _ hb hc,xor_nat _ _ (and_lt ha) (and_lt ha),xor_nat _ _ (xor_lt (and_lt ha) (and_lt ha)) (and_lt hb),maj_nat]
 unfold roundQ rot3
 omega
theorem ref_block (s:S8) (b off c:Nat) (l:List Nat) (W:World) (hs:s.ok) (hA:Rd W W.heap.size 1 (some ⟨b,off,none⟩) 64 (byts l)) (ho:okB l) (hc:64≤c) (hc2:c≤9223372036854775807) :
  Calls Tryz.prog 166 #[.agg #[.int .u32 s.a,.int .u32 s.b,.int .u32 s.c,.int .u32 s.d,.int .u32 s.e,.int .u32 s.f,.int .u32 s.g,.int .u32 s.h],.slice (some ⟨b,off,none⟩) 64 c] W (Ret (.agg (u32s (blockS s l).list).toArray) W):=by
 have hl:Hid (l.length=64):=by have:=hA.1;rw [byts_length,Nat.mul_one] at this;exact this
 obtain ⟨_,_,e,hbb,-⟩:=hA.2 (by omega)
 injection e with e
 injection e with e1 e2 e3
 subst e1;subst e2;clear e3
 go_enter Tryz.func166,Tryz.ntmps166
 go_upto_region 1 with fail
 have hb:=bAl (bAl (bRefl W) (.cells (u32s s.list).toArray 197)) (.cells (u32s [0,0,0,0,0,0,0,0]).toArray 197)
 have BS:=(Blk.new W 197 (u32s s.list).toArray _ rfl).alloc (.cells (u32s [0,0,0,0,0,0,0,0]).toArray 197)
 have BR:=Blk.new (W.alloc (.cells (u32s s.list).toArray 197)) 197 (u32s [0,0,0,0,0,0,0,0]).toArray (W.heap.size+1) (by simp)
 change Code.wp _ _ _ _ ((W.alloc (.cells (u32s s.list).toArray 197)).alloc (.cells (u32s [0,0,0,0,0,0,0,0]).toArray 197))
 generalize (W.alloc (.cells (u32s s.list).toArray 197)).alloc (.cells (u32s [0,0,0,0,0,0,0,0]).toArray 197)=w0 at *
 apply wp_region_lit
 iterate 6 go_step
 refine wpList_storeG (v := .agg (fillW []).toArray) (by rfl) (by rfl) (by rfl) (by rfl) (store_newW (by exact w64_info) (by rfl) (u32s_one _)) ?_
 simp only [Act.put]
 have BW:=Blk.new w0 219 (fillW []).toArray _ rfl
 have hws:W.heap.size+1<w0.heap.size:=BR.lt
 replace hb:=bAl hb (.cells (fillW []).toArray 219)
 replace BS:=BS.alloc (.cells (fillW []).toArray 219)
 replace BR:=BR.alloc (.cells (fillW []).toArray 219)
 change wpList _ _ _ _ _ (w0.alloc (.cells (fillW []).toArray 219))
 generalize w0.alloc (.cells (fillW []).toArray 219)=w1 at *
 generalize w0.heap.size=wb at *
 go_wp2_with fail
 go_loopw [6] (fun i wr=>∃ k:Nat,k≤16∧i = .int .i64 k∧Below W.heap.size W wr∧Blk wr W.heap.size 197 (u32s s.list).toArray∧Blk wr (W.heap.size+1) 197 (u32s [0,0,0,0,0,0,0,0]).toArray∧Blk wr wb 219 (fillW (words l k)).toArray) (fun i _=>16 - (intOf i).toNat)
 case atStart=>exact ⟨0,Nat.zero_le _,rfl,hb,BS,BR,BW⟩
 case round =>
  clear hb BS BR BW
  obtain ⟨k,hk,rfl,hb,BS,BR,BW⟩:=hrel
  by_cases hlt:k<16
  ·obtain ⟨x0,hx0⟩:∃ x,Hid (l[4*k]?=some x):=⟨_,Lib.hid (List.getElem?_eq_getElem (by have:=hl.out;omega))⟩
   obtain ⟨x1,hx1⟩:∃ x,Hid (l[4*k+1]?=some x):=⟨_,Lib.hid (List.getElem?_eq_getElem (by have:=hl.out;omega))⟩
   obtain ⟨x2,hx2⟩:∃ x,Hid (l[4*k+2]?=some x):=⟨_,Lib.hid (List.getElem?_eq_getElem (by have:=hl.out;omega))⟩
   obtain ⟨x3,hx3⟩:∃ x,Hid (l[4*k+3]?=some x):=⟨_,Lib.hid (List.getElem?_eq_getElem (by have:=hl.out;omega))⟩
   have q:=ref_word b (off+4*k) (c - 4*k) x0 x1 x2 x3 wr ((hb.cell (p:=⟨b,off+4*k,none⟩) hbb).trans (byts_cell hA (by omega) hx0.out)) ((hb.cell (p:=⟨b,off+(4*k+1),none⟩) hbb).trans (byts_cell hA (by omega) hx1.out))
    ((hb.cell (p:=⟨b,off+(4*k+2),none⟩) hbb).trans (byts_cell hA (by omega) hx2.out)) ((hb.cell (p:=⟨b,off+(4*k+3),none⟩) hbb).trans (byts_cell hA (by omega) hx3.out))
    (ho _ (List.mem_of_getElem? hx0.out)) (ho _ (List.mem_of_getElem? hx1.out)) (ho _ (List.mem_of_getElem? hx2.out)) (ho _ (List.mem_of_getElem? hx3.out))
   rw [show wordN x0 x1 x2 x3=wordAt l k by unfold wordAt;rw [hx0.out,hx1.out,hx2.out,hx3.out];rfl] at q
   have i0:(0:Int)≤4 * (k:Int):=by omega
   have i1:IntKind.i64.wrap (4 * (k:Int))=4 * (k:Int):=by rw [IntKind.wrap_i64];omega
   have i2:IntKind.i64.wrap (4 * (k:Int)+4)=4 * (k:Int)+4:=by rw [IntKind.wrap_i64];omega
   have i3:4 * (k:Int)+4≤(c:Int):=by omega
   have i4:(4 * (k:Int)).toNat=4*k:=by omega
   have i5:(4 * (k:Int)+4).toNat=4*k+4:=by omega
   have i6:(0:Int)≤4 * (k:Int)+4:=by omega
   have n1:¬(c=4*k):=by omega
   obtain ⟨v,hv⟩:=fill_there BW (by rw [words_len];omega) (show k<64 by omega)
   have hk64:k<64:=by omega
   have hwl:=Lib.hid (words_len l k)
   go_wp2_with fail
   (with_reducible refine q.mono ?_)
   rintro e w' ⟨rfl,b'⟩
   have hb':=bCall hb b'
   have BS':=BS.below b' BS.lt
   have BR':=BR.below b' BR.lt
   have BW':=BW.below b' BW.lt
   obtain ⟨v',hv'⟩:=fill_there BW' (by rw [hwl.out];omega) hk64
   have hz:=BW'.frozen k
   clear q hb BS BR BW b' hv
   go_wp2_with fail
   go_roundw
   case rel=>exact ⟨k+1,by omega,by go_num,bSet hb' (by show W.heap.size≤wb;omega) _,BS'.far (by show W.heap.size≠wb;omega) _,BR'.far (by show W.heap.size+1≠wb;omega) _,by rw [words_succ];exact BW'.fill (by rw [hwl.out];omega) k _ hwl.out⟩
   case measure=>simp [intOf];omega
  ·have hk16:k=16:=by omega
   rw [hk16] at BW
   clear hk16
   have hW0:Hid (words l 16=schedW (words l 16) 0):=rfl
   rw [hW0.out] at BW
   go_wp2_with fail
   go_loopw [7] (fun i wr=>∃ (j:Nat) (ws:List Nat),16≤j∧j≤64∧i = .int .i64 j∧Below W.heap.size W wr∧Blk wr W.heap.size 197 (u32s s.list).toArray∧Blk wr (W.heap.size+1) 197 (u32s [0,0,0,0,0,0,0,0]).toArray∧Blk wr wb 219 (fillW ws).toArray∧Hid (ltU ws∧ws.length=j∧ws=schedW (words l 16) (j - 16))) (fun i _=>64 - (intOf i).toNat)
   case atStart=>exact ⟨16,_,Nat.le_refl _,by omega,rfl,hb,BS,BR,BW,Lib.hid ⟨words_lt ho 16,words_len _ _,rfl⟩⟩
   case round =>
    clear hb BS BR BW hlt hk hW0
    obtain ⟨j,ws,hj16,hj64,rfl,hb,BS,BR,BW,hW⟩:=hrel
    by_cases hlt:j<64
    ·obtain ⟨hWl,hWn,hWe⟩:=hW.out
     obtain ⟨x16,h16⟩:∃ x,Hid (ws[j - 16]?=some x):=⟨_,Lib.hid (List.getElem?_eq_getElem (by omega))⟩
     obtain ⟨x15,h15⟩:∃ x,Hid (ws[j - 15]?=some x):=⟨_,Lib.hid (List.getElem?_eq_getElem (by omega))⟩
     obtain ⟨x7,h7⟩:∃ x,Hid (ws[j - 7]?=some x):=⟨_,Lib.hid (List.getElem?_eq_getElem (by omega))⟩
     obtain ⟨x2,h2⟩:∃ x,Hid (ws[j - 2]?=some x):=⟨_,Lib.hid (List.getElem?_eq_getElem (by omega))⟩
     have l15:=hWl _ (List.mem_of_getElem? h15.out)
     have l2:=hWl _ (List.mem_of_getElem? h2.out)
     have d15:=fill_cell BW h15.out
     have d2:=fill_cell BW h2.out
     have i15:(0:Int)≤(j:Int) - 15:=by omega
     have i15':(j:Int) - 15<64:=by omega
     have i2:(0:Int)≤(j:Int) - 2:=by omega
     have i2':(j:Int) - 2<64:=by omega
     have i16:(0:Int)≤(j:Int) - 16:=by omega
     have i16':(j:Int) - 16<64:=by omega
     have i7:(0:Int)≤(j:Int) - 7:=by omega
     have i7':(j:Int) - 7<64:=by omega
     have w16:IntKind.i64.wrap ((j:Int) - 16)=(j:Int) - 16:=by rw [IntKind.wrap_i64];omega
     have w7:IntKind.i64.wrap ((j:Int) - 7)=(j:Int) - 7:=by rw [IntKind.wrap_i64];omega
     have n16:((j:Int) - 16).toNat=j - 16:=by omega
     have n7:((j:Int) - 7).toNat=j - 7:=by omega
     have j0:(0:Int)≤(j:Int):=by omega
     have k16:(16:Int)≤(j:Int):=by omega
     have k7:(7:Int)≤(j:Int):=by omega
     have j64:(j:Int)<64:=by omega
     have hwlen:=Lib.hid hWn
     clear hWl hWn hWe
     go_upto_region 11 with fail
     clear d15 d2
     have KS:Hid (∀ w',Below wr.heap.size wr w'→w'.cell? ⟨wb,j - 16,none⟩=some (.int .u32 x16)∧w'.cell? ⟨wb,j - 7,none⟩=some (.int .u32 x7)):=Lib.hid (fun w' h=>⟨fill_cell (BW.below h BW.lt) h16.out,fill_cell (BW.below h BW.lt) h7.out⟩)
     refine wp_region_schB (f:=29) KS [(0,1),(1,1),(2,1),(3,1),(4,2),(5,1),(7,1),(10,1),(11,1),(14,1),(15,1),(16,1),(17,2),(19,1),(21,1),(24,1),(25,1),(6,0),(8,0),(9,1),(12,1),(13,1),(18,1),(20,0),(22,0),(23,1),(26,1),(27,1),(28,1),(29,3)] ?_
     simp only [pickS,List.getElem?_cons_zero,List.getElem?_cons_succ]
     iterate 4 refine wpSched_t ?_
     refine wpSched_r ?_
     iterate 7 refine wpSched_t ?_
     refine wpSched_r ?_
     iterate 4 refine wpSched_t ?_
     refine wpSched_force (fun K hK=>?_)
     go_simp;(first | (go_at_call 181;(first | (with_reducible refine (ror_7 _ _ l15).mono ?_) | (with_reducible refine (ror_18 _ _ l15).mono ?_) | (with_reducible refine (ror_17 _ _ l2).mono ?_) | (with_reducible refine (ror_19 _ _ l2).mono ?_));rintro e w9 ⟨rfl,b9⟩;have B7:Below wr.heap.size wr w9:=bCall (by repeat (first | with_reducible exact B7 | with_reducible exact bRefl _ | with_reducible refine bDr ?_)) b9) | skip)
     refine shut_go hK KS ?_
     clear hK K
     refine wpSched_force (fun K hK=>?_)
     go_simp;(first | (go_at_call 181;(first | (with_reducible refine (ror_7 _ _ l15).mono ?_) | (with_reducible refine (ror_18 _ _ l15).mono ?_) | (with_reducible refine (ror_17 _ _ l2).mono ?_) | (with_reducible refine (ror_19 _ _ l2).mono ?_));rintro e w9 ⟨rfl,b9⟩;have B7:Below wr.heap.size wr w9:=bCall (by repeat (first | with_reducible exact B7 | with_reducible exact bRefl _ | with_reducible refine bDr ?_)) b9) | skip)
     refine shut_go hK KS ?_
     clear hK K
     iterate 4 refine wpSched_t ?_
     refine wpSched_force (fun K hK=>?_)
     go_simp;(first | (go_at_call 181;(first | (with_reducible refine (ror_7 _ _ l15).mono ?_) | (with_reducible refine (ror_18 _ _ l15).mono ?_) | (with_reducible refine (ror_17 _ _ l2).mono ?_) | (with_reducible refine (ror_19 _ _ l2).mono ?_));rintro e w9 ⟨rfl,b9⟩;have B7:Below wr.heap.size wr w9:=bCall (by repeat (first | with_reducible exact B7 | with_reducible exact bRefl _ | with_reducible refine bDr ?_)) b9) | skip)
     refine shut_go hK KS ?_
     clear hK K
     refine wpSched_force (fun K hK=>?_)
     go_simp;(first | (go_at_call 181;(first | (with_reducible refine (ror_7 _ _ l15).mono ?_) | (with_reducible refine (ror_18 _ _ l15).mono ?_) | (with_reducible refine (ror_17 _ _ l2).mono ?_) | (with_reducible refine (ror_19 _ _ l2).mono ?_));rintro e w9 ⟨rfl,b9⟩;have B7:Below wr.heap.size wr w9:=bCall (by repeat (first | with_reducible exact B7 | with_reducible exact bRefl _ | with_reducible refine bDr ?_)) b9) | skip)
     refine shut_go hK KS ?_
     clear hK K
     iterate 4 refine wpSched_t ?_
     refine wpSched_last ?_
     first | simp only [List.map_nil] | simp only [List.map_cons,List.map_nil]
     have hb2:=bCall hb B7
     have BS2:=BS.below B7 BS.lt
     have BR2:=BR.below B7 BR.lt
     have BW2:=BW.below B7 BW.lt
     clear hb BS BR BW KS B7
     obtain ⟨v,hv⟩:=fill_there BW2 (by rw [hwlen.out];omega) (show j<64 by omega)
     have hz:=BW2.frozen j
     go_wp2_with fail
     refine NoPanic.normal ?_
     go_wp2_with fail
     have hvv:=Lib.hid (nextW_int x16 x15 x7 x2 l15 l2)
     rw [hvv.out]
     have hw':=Lib.hid (grow_step hW.out hj16 h16.out h15.out h7.out h2.out)
     exact ⟨⟨j+1,ws++[nextW x16 x15 x7 x2],by omega,by omega,by go_num,bSet hb2 (by show W.heap.size≤wb;omega) _,BS2.far (by show W.heap.size≠wb;omega) _,BR2.far (by show W.heap.size+1≠wb;omega) _,BW2.fill (by rw [hwlen.out];exact hlt) j _ hwlen.out,hw'.out⟩,by simp [intOf];omega⟩
    ·have hj:j=64:=by omega
     obtain ⟨hWl,hWn,hWe⟩:=hW.out
     rw [hj] at hWe hWn
     clear hj
     rw [show 64 - 16=48 from rfl] at hWe
     have hWl':=Lib.hid hWl
     have hWn':=Lib.hid hWn
     have hWe':=Lib.hid hWe
     clear hWl hWn hWe hW
     have qk:=ref_numbers wr
     obtain ⟨K,hK⟩:∃ K,Hid (K=(u32s shaK).toArray):=⟨_,Lib.hid rfl⟩
     rw [←hK.out] at qk
     have hKs:K.size=64:=by rw [hK.out];rfl
     have hK1:∀ v∈K.toList,v.oneCell'=true:=by rw [hK.out];exact u32s_one shaK
     go_wp2_with fail
     (with_reducible refine qk.mono ?_)
     rintro e w2 ⟨rfl,b2⟩
     have hb2:=bCall hb b2
     have BS2:=BS.below b2 BS.lt
     have BR2:=BR.below b2 BR.lt
     have BW2:=BW.below b2 BW.lt
     clear qk hb BS BR BW b2
     dsimp only
     (refine ‹∀ (a:Act) (w:World),wpList _ _ _ _ a w→_› _ _ ?_)
     iterate 3 go_step
     refine wpList_storeG (v := .agg K) (by rfl) (by rfl) (by rfl) (by rfl) (store_newW (by rw [hKs];exact w64_info) (by rw [hKs];rfl) hK1) ?_
     simp only [Act.put]
     have BK:=Blk.new w2 219 K _ rfl
     have BS3:=BS2.alloc (.cells K 219)
     have BR3:=BR2.alloc (.cells K 219)
     have BW3:=BW2.alloc (.cells K 219)
     have hb3:=bAl hb2 (.cells K 219)
     have hwk:wb<w2.heap.size:=BW2.lt
     clear hb2 BS2 BR2 BW2
     generalize w2.alloc (.cells K 219)=w3 at *
     generalize w2.heap.size=kb at *
     obtain ⟨q0,q1,q2,q3,q4,q5,q6,q7⟩:=st_cells BS3
     go_upto_region 13 with fail
     go_quiet (fail)
     have BS4:Blk (w3.drewN nq) W.heap.size 197 (u32s s.list).toArray:=BS3
     have BR4:Blk (w3.drewN nq) (W.heap.size+1) 197 (u32s [0,0,0,0,0,0,0,0]).toArray:=BR3
     have BW4:Blk (w3.drewN nq) wb 219 (fillW ws).toArray:=BW3
     have BK4:Blk (w3.drewN nq) kb 219 K:=BK
     have hb4:=bDrN hb3 nq
     clear q0 q1 q2 q3 q4 q5 q6 q7 BS3 BR3 BW3 BK hb3 hj16 hj64 hlt
     generalize w3.drewN nq=w4 at *
     go_wp2_with fail
     go_loopw [11,12,13,14,15,16,17,18,19] (fun va vb vc vd ve vf vg vh i wr=>∃ (t:Nat) (vs:S8),t≤64∧i = .int .i64 t∧va = .int .u32 vs.a∧vb = .int .u32 vs.b∧vc = .int .u32 vs.c∧vd = .int .u32 vs.d∧ve = .int .u32 vs.e∧vf = .int .u32 vs.f∧vg = .int .u32 vs.g∧vh = .int .u32 vs.h∧Below W.heap.size W wr ∧
      Blk wr W.heap.size 197 (u32s s.list).toArray∧Blk wr (W.heap.size+1) 197 (u32s [0,0,0,0,0,0,0,0]).toArray∧Blk wr wb 219 (fillW ws).toArray∧Blk wr kb 219 K∧vs.ok∧Hid (vs=roundsS shaK ws s t)) (fun _ _ _ _ _ _ _ _ i _=>64 - (intOf i).toNat)
     case atStart=>exact ⟨0,s,Nat.zero_le _,rfl,rfl,rfl,rfl,rfl,rfl,rfl,rfl,rfl,hb4,BS4,BR4,BW4,BK4,hs,Lib.hid rfl⟩
     case round =>
      clear BS4 BR4 BW4 BK4 hb4
      obtain ⟨t,vs,ht64,rfl,rfl,rfl,rfl,rfl,rfl,rfl,rfl,rfl,hb,BS,BR,BW,BK,hvo,hvs⟩:=hrel
      by_cases hlt:t<64
      ·obtain ⟨xt,hxt⟩:∃ x,Hid (ws[t]?=some x):=⟨_,Lib.hid (List.getElem?_eq_getElem (by rw [hWn'.out];exact hlt))⟩
       obtain ⟨kt,hkt⟩:∃ x,Hid (shaK[t]?=some x):=⟨_,Lib.hid (List.getElem?_eq_getElem (by rw [shaK_len];exact hlt))⟩
       obtain ⟨o0,o1,o2,o3,o4,o5,o6,o7⟩:=hvo
       have it:(t:Int)<64:=by omega
       have it0:(0:Int)≤(t:Int):=by omega
       have KS:Hid (∀ w',Below wr.heap.size wr w'→w'.cell? ⟨kb,t,none⟩=some (.int .u32 kt)∧w'.cell? ⟨wb,t,none⟩=some (.int .u32 xt)):=Lib.hid (fun w' h=>⟨((BK.below h BK.lt).cell t).trans (by rw [hK.out,List.getElem?_toArray];exact u32s_at hkt.out),fill_cell (BW.below h BW.lt) hxt.out⟩)
       go_upto_region 17 with fail
       refine wp_region_schB (f:=27) KS [(0,1),(1,1),(3,1),(6,1),(10,1),(11,1),(12,1),(13,1),(14,1),(15,1),(16,1),(17,1),(19,1),(20,1),(21,2),(23,1),(24,1),(25,2),(2,0),(4,0),(5,1),(7,0),(8,1),(9,1),(18,1),(22,1),(26,1),(27,3)] ?_
       simp only [pickS,List.getElem?_cons_zero,List.getElem?_cons_succ]
       iterate 14 refine wpSched_t ?_
       refine wpSched_r ?_
       iterate 2 refine wpSched_t ?_
       refine wpSched_r ?_
       refine wpSched_force (fun K hK=>?_)
       go_simp;(first | (go_at_call 181;(first | (with_reducible refine (ror_6 _ _ o4).mono ?_) | (with_reducible refine (ror_11 _ _ o4).mono ?_) | (with_reducible refine (ror_25 _ _ o4).mono ?_));rintro e w9 ⟨rfl,b9⟩;have B7:Below wr.heap.size wr w9:=bCall (by repeat (first | with_reducible exact B7 | with_reducible exact bRefl _ | with_reducible refine bDr ?_)) b9) | skip)
       refine shut_go hK KS ?_
       clear hK K
       refine wpSched_force (fun K hK=>?_)
       go_simp;(first | (go_at_call 181;(first | (with_reducible refine (ror_6 _ _ o4).mono ?_) | (with_reducible refine (ror_11 _ _ o4).mono ?_) | (with_reducible refine (ror_25 _ _ o4).mono ?_));rintro e w9 ⟨rfl,b9⟩;have B7:Below wr.heap.size wr w9:=bCall (by repeat (first | with_reducible exact B7 | with_reducible exact bRefl _ | with_reducible refine bDr ?_)) b9) | skip)
       refine shut_go hK KS ?_
       clear hK K
       refine wpSched_t ?_
       refine wpSched_force (fun K hK=>?_)
       go_simp;(first | (go_at_call 181;(first | (with_reducible refine (ror_6 _ _ o4).mono ?_) | (with_reducible refine (ror_11 _ _ o4).mono ?_) | (with_reducible refine (ror_25 _ _ o4).mono ?_));rintro e w9 ⟨rfl,b9⟩;have B7:Below wr.heap.size wr w9:=bCall (by repeat (first | with_reducible exact B7 | with_reducible exact bRefl _ | with_reducible refine bDr ?_)) b9) | skip)
       refine shut_go hK KS ?_
       clear hK K
       iterate 5 refine wpSched_t ?_
       refine wpSched_last ?_
       first | simp only [List.map_nil] | simp only [List.map_cons,List.map_nil]
       go_wp2_with fail
       refine NoPanic.normal ?_
       have hP:=rP_int vs kt xt o4 o5 o6
       rw [hP]
       clear hP KS
       generalize hpp:roundP vs kt xt=P at *
       have Hpp:=Lib.hid hpp
       have hPl:P<4294967296:=by rw [←hpp];exact Nat.mod_lt _ (by decide)
       clear hpp
       go_upto_region 18 with fail
       go_wp2_with fail
       (with_reducible refine (ror_2 _ _ o0).mono ?_)
       rintro e wa ⟨rfl,ba⟩
       go_wp2_with fail
       (with_reducible refine (ror_13 _ _ o0).mono ?_)
       rintro e wc ⟨rfl,bc⟩
       go_wp2_with fail
       (with_reducible refine (ror_22 _ _ o0).mono ?_)
       rintro e wd ⟨rfl,bd⟩
       have B8:=bCall B7 (bCall (bCall ba bc) bd)
       have hb8:=bCall hb B8
       have BS8:=BS.below B8 BS.lt
       have BR8:=BR.below B8 BR.lt
       have BW8:=BW.below B8 BW.lt
       have BK8:=BK.below B8 BK.lt
       clear hb BS BR BW BK B7 B8 ba bc bd
       go_upto_region 19 with fail
       have hQ:=rQ_int vs o0 o1 o2
       rw [hQ]
       clear hQ
       have hp4:Hid (((vs.d:Int)+(P:Nat)) % 4294967296=(((vs.d+P) % 4294967296:Nat):Int)):=by show _=_;omega
       have hp0:Hid (((P:Nat)+(roundQ vs:Nat):Int) % 4294967296=(((P+roundQ vs) % 4294967296:Nat):Int)):=by show _=_;omega
       have hrs:=Lib.hid (rounds_step hvs.out hkt.out hxt.out)
       have hok:=Lib.hid (roundS_ok (k:=kt) (w:=xt) (show vs.ok from ⟨o0,o1,o2,o3,o4,o5,o6,o7⟩))
       go_wp2_with fail
       rw [hp4.out,hp0.out]
       rw [←Hpp.out]
       exact ⟨⟨t+1,roundS vs kt xt,by omega,by go_num,rfl,rfl,rfl,rfl,rfl,rfl,rfl,rfl,hb8,BS8,BR8,BW8,BK8,hok.out,hrs⟩,by simp [intOf];omega⟩
      ·have ht:t=64:=by omega
       have hvs':=hvs.out
       rw [ht] at hvs'
       have HVS:=Lib.hid hvs'
       clear ht hvs'
       obtain ⟨q0,q1,q2,q3,q4,q5,q6,q7⟩:=st_cells BS
       have hX:(#[.int .u32 (IntKind.u32.wrap ((s.a:Nat)+(vs.a:Nat):Int)),.int .u32 (IntKind.u32.wrap ((s.b:Nat)+(vs.b:Nat):Int)),.int .u32 (IntKind.u32.wrap ((s.c:Nat)+(vs.c:Nat):Int)),.int .u32 (IntKind.u32.wrap ((s.d:Nat)+(vs.d:Nat):Int)),.int .u32 (IntKind.u32.wrap ((s.e:Nat)+(vs.e:Nat):Int)),.int .u32 (IntKind.u32.wrap ((s.f:Nat)+(vs.f:Nat):Int)),.int .u32 (IntKind.u32.wrap ((s.g:Nat)+(vs.g:Nat):Int)),.int .u32 (IntKind.u32.wrap ((s.h:Nat)+(vs.h:Nat):Int))]:Array Value)=(u32s (blockS s l).list).toArray:=by
        unfold blockS
        rw [←hWe'.out,←HVS.out]
        simp [u32s,S8.list,addS,w32]
       go_upto_region 20 with fail
       apply wp_region_lit
       iterate 99 go_step
       refine wpList_storeG (v := .agg #[.int .u32 (IntKind.u32.wrap ((s.a:Nat)+(vs.a:Nat):Int)),.int .u32 (IntKind.u32.wrap ((s.b:Nat)+(vs.b:Nat):Int)),.int .u32 (IntKind.u32.wrap ((s.c:Nat)+(vs.c:Nat):Int)),.int .u32 (IntKind.u32.wrap ((s.d:Nat)+(vs.d:Nat):Int)),.int .u32 (IntKind.u32.wrap ((s.e:Nat)+(vs.e:Nat):Int)),.int .u32 (IntKind.u32.wrap ((s.f:Nat)+(vs.f:Nat):Int)),.int .u32 (IntKind.u32.wrap ((s.g:Nat)+(vs.g:Nat):Int)),.int .u32 (IntKind.u32.wrap ((s.h:Nat)+(vs.h:Nat):Int))]) (by rfl) (by rfl) (by rfl) (by rfl) (store_whole BR (by exact (by kernel_rfl:(Tryz.prog.info? 197).map (·.size)=some 8)) (by rfl) (by intro v hv;simp only [List.mem_cons,List.not_mem_nil,or_false] at hv;rcases hv with rfl | rfl | rfl | rfl | rfl | rfl | rfl | rfl <;> rfl)) ?_
       simp only [Act.put]
       rw [hX]
       have BR2:=BR.row (u32s (blockS s l).list).toArray
       have hb2:=below_setRow hb (show W.heap.size≤W.heap.size+1 by omega) (u32s (blockS s l).list).toArray
       generalize wr.setRow (W.heap.size+1) (u32s (blockS s l).list).toArray=w6 at *
       go_wp2_with fail
       exact bodyPost_ret (v := .agg (u32s (blockS s l).list).toArray) (results_cell_row rfl _ _ (W.heap.size+1) 197 _ (0,0) _ rfl BR2 Tryz.underlying197 rfl (by kernel_rfl)) rfl ⟨rfl,hb2⟩
theorem numF_small {k u:Nat} (h:u<128):numF k u=[u]:=by
 cases k with
 | zero=>show [u % 256]=[u];rw [Nat.mod_eq_of_lt (by omega)]
 | succ k=>show (if u<128 then [u] else _)=[u];rw [if_pos h]
theorem numF_big {k u:Nat} (h:128≤u):numF (k+1) u=(u % 128+128)::numF k (u / 128):=by
 show (if u<128 then [u] else _)=_
 rw [if_neg (by omega)]
theorem step_appendR {P:Program} {ops:Array Oper} {o:Oper} {a:Act} {w:World} {K:Act→World→Prop} {Q:Exit→Act→World→Prop} {E:Prop}
  (hgd:o.guard=none) (s x:Operand) (t:TypeId) (ho:o.op = .call { callee := .builtin .append,args:=#[s,x],argTypes:=#[t,t] })
  (base:Nat) (e:TypeId) (z:Value) (size bytes:Nat) (ht:P.underlying t=some (.slice e)) (hinfo:(P.info? e).map (fun i=>(i.zero,i.size,i.bytes))=some (some z,size,bytes)) (hzs:z.cells.size=size) (hsz:0<size)
  (v:Value) (n:Nat) (xs:List Value) (hs:a.eval s=v) (hown:w.ownsRow base e size v n xs) (A:Option Addr) (B m c:Nat) (news:List Value) (hx:a.eval x = .slice A m c) (hr:Rd w B size A m news) (hm:0<m)
  (h1:∀ u∈news,u.oneCell'=true) (h63:n+m≤maxLen) (hbytes:(n+m)*bytes≤140737488355328) (hbase:base≤w.heap.size)
  (hK:∀ v' w',w'.ownsRow base e size v' (n+m) (xs++news)→Grew w w' v v'→K (a.put o.dst v') w') :
  if Region.wanted o (yielded ops a.tmps)=true then Oper.wp P o a w K Q else E:=by
 obtain ⟨i0,hi,hz0,hz1,hz2⟩:=info_parts hinfo
 obtain ⟨b,off,rfl,_,hc⟩:=hr.2 hm
 refine step_append_lies w hgd s x t ho base e i0 z size bytes ht hi hz0 hz1 hz2 hzs hsz v n xs hs hown ⟨b,off,none⟩ m c news hx hr.1 ?_ h1 hm h63 hbytes hbase _ rfl ?_
 ·intro j u hu
  rw [addr_plus]
  exact hc j u hu
 ·intro g' cap w' hown' hgrow hat _
  refine hK _ w' hown' ⟨hgrow,?_⟩
  rcases hat with h | h
  ·exact .inl h.symm
  ·exact .inr ⟨g',rfl,by omega⟩
theorem ref_numF:∀ (k u:Nat) (W:World),u<18446744073709551616→u<128 ^ (k+1)→k≤10→Calls Tryz.prog 163 #[.int .u64 u] W (RetSl 1 (numF k u).length (byts (numF k u)) W):=by
 intro k
 induction k with
 | zero =>
  intro u W h1 h2 _
  have hlt:u<128:=by simpa using h2
  have hs:=Lib.hid (numF_small (k:=0) hlt)
  clear h2
  go_enter Tryz.func163,Tryz.ntmps163
  go_wp2_with fail
  go_ret
  refine ⟨_,rfl,bAl (bRefl W) _,?_⟩
  rw [hs.out]
  exact Sl.of_own (base:=W.heap.size) (World.ownsRow_lit W #[.int .u8 (u:Int)] 1 (Nat.le_refl _) (by unfold maxLen;omega) rfl)
 | succ k ih =>
  intro u W h1 h2 hk
  by_cases hlt:u<128
  ·have hs:=Lib.hid (numF_small (k:=k+1) hlt)
   clear ih h2
   go_enter Tryz.func163,Tryz.ntmps163
   go_wp2_with fail
   go_ret
   refine ⟨_,rfl,bAl (bRefl W) _,?_⟩
   rw [hs.out]
   exact Sl.of_own (base:=W.heap.size) (World.ownsRow_lit W #[.int .u8 (u:Int)] 1 (Nat.le_refl _) (by unfold maxLen;omega) rfl)
  ·have hge:128≤u:=by omega
   have hs:=Lib.hid (numF_big (k:=k) hge)
   have hq:=fun w=>ih (u / 128) w (by omega) (by rw [Nat.pow_succ] at h2;omega) (by omega)
   rw [show ((u / 128:Nat):Int)=(u:Int) / 128 by omega] at hq
   have hl:=(numF_len k (u / 128)).2
   have hm:Hid (((u % 128+128:Nat):Int)=(u:Int) % 128+128):=by show _=_;omega
   obtain ⟨L,hL⟩:∃ L,Hid (L=numF k (u / 128)):=⟨_,Lib.hid rfl⟩
   rw [←hL.out] at hq hl
   clear ih h2 hlt
   go_enter Tryz.func163,Tryz.ntmps163
   go_wp2_with fail
   (with_reducible refine (hq _).mono ?_)
   rintro e w2 ⟨v2,rfl,b2,A2,c2,rfl,hR,hc2,_,hnil⟩
   have hown:=ownsRow_keep (World.ownsRow_lit (base:=W.heap.size) (e:=5) (size:=1) W #[.int .u8 ((u:Int) % 128+128)] 1 (Nat.le_refl _) (by unfold maxLen;omega) rfl) b2
   have hb2:=bCall (bAl (bRefl W) _) b2
   have hone:∀ q∈byts L,q.oneCell'=true:=byts_oneCell
   have h63:1+L.length≤maxLen:=by unfold maxLen;omega
   have hby:(1+L.length)*1≤140737488355328:=by omega
   have hbs:=hb2.size
   clear b2 hq
   go_wp2_with (at_builtin;refine wpList_appendG (.tmp 12) (.tmp 15) 123 W.heap.size 5 (.int .u8 0) 1 1 _ 1 _ A2 L.length c2 w2.heap.size (byts L) rfl rfl Tryz.underlying123 byte_info rfl (by omega) rfl hown rfl hR hnil hone h63 hby hbs ?_;intro v' w' hown4 hg4)
   go_ret
   refine ⟨_,rfl,hb2.trans (hg4.below hown hbs),?_⟩
   have hX:=Sl.of_own hown4
   rw [hs.out,←hL.out]
   have e:byts ((u % 128+128)::L)=[Value.int .u8 ((u:Int) % 128+128)]++byts L:=by
    show Value.int .u8 ((u % 128+128:Nat):Int)::byts L=_
    rw [hm.out];rfl
   rw [e,List.length_cons,Nat.add_comm]
   exact hX
theorem ref_numeral (u:Nat) (W:World) (h:u<18446744073709551616):Calls Tryz.prog 163 #[.int .u64 u] W (RetSl 1 (numN u).length (byts (numN u)) W) :=
 ref_numF 10 u W h (Nat.lt_of_lt_of_le h (by decide)) (Nat.le_refl _)
theorem ref_unsigned (n:Int) (w:World) (h0:-9223372036854775808≤n) (h1:n≤9223372036854775807) :
  Calls Tryz.prog 164 #[.int .i64 n] w (Same (.int .u64 (unsN n:Nat)) w):=by
 by_cases hn:0≤n
 ·have e:Hid (((unsN n:Nat):Int)=2*n):=by show _=_;unfold unsN;rw [if_pos hn];omega
  go_enter Tryz.func164,Tryz.ntmps164
  go_wp2
  go_ret
  exact ⟨ret_int e.out.symm,rfl⟩
 ·have e:Hid (((unsN n:Nat):Int)=2 * (-(n+1))+1):=by show _=_;unfold unsN;rw [if_neg hn];omega
  have hw1:IntKind.i64.wrap (n+1)=n+1:=by rw [IntKind.wrap_i64];omega
  have hw2:IntKind.i64.wrap (-(n+1)) = -(n+1):=by rw [IntKind.wrap_i64];omega
  have hw3:IntKind.u64.wrap (-(n+1)) = -(n+1):=by rw [IntKind.wrap_u64];omega
  have hw4:IntKind.u64.wrap (2 * -(n+1))=2 * -(n+1):=by rw [IntKind.wrap_u64];omega
  have hw5:IntKind.u64.wrap (2 * -(n+1)+1)=2 * -(n+1)+1:=by rw [IntKind.wrap_u64];omega
  go_enter Tryz.func164,Tryz.ntmps164
  go_wp2
  go_ret
  exact ⟨ret_int e.out.symm,rfl⟩
theorem ref_fmd_leaf (x:It) (w:World):Calls Tryz.prog 161 #[x.agg] w (Ret (.bool true) w):=by
 cases x with
 | int n =>
  show Calls _ _ #[.agg #[.int .i64 1,.int .i64 n,.string ⟨#[]⟩,.slice none 0 0]] w _
  go_enter Tryz.func161,Tryz.ntmps161
  go_wp2_with fail
  all_goals
   go_ret
   exact ⟨rfl,bAl (bRefl _) _⟩
 | text s =>
  show Calls _ _ #[.agg #[.int .i64 2,.int .i64 0,.string s,.slice none 0 0]] w _
  go_enter Tryz.func161,Tryz.ntmps161
  go_wp2_with fail
  all_goals
   go_ret
   exact ⟨rfl,bAl (bRefl _) _⟩
theorem ref_depth_leaf (x:It) (w:World):Calls Tryz.prog 162 #[x.agg] w (Ret (.int .i64 0) w):=by
 cases x with
 | int n =>
  show Calls _ _ #[.agg #[.int .i64 1,.int .i64 n,.string ⟨#[]⟩,.slice none 0 0]] w _
  go_enter Tryz.func162,Tryz.ntmps162
  go_wp2_with fail
  all_goals
   go_ret
   exact ⟨rfl,bAl (bRefl _) _⟩
 | text s =>
  show Calls _ _ #[.agg #[.int .i64 2,.int .i64 0,.string s,.slice none 0 0]] w _
  go_enter Tryz.func162,Tryz.ntmps162
  go_wp2_with fail
  all_goals
   go_ret
   exact ⟨rfl,bAl (bRefl _) _⟩
theorem It.four (x:It):∃ y0 y1 y2 y3,x.cells=[y0,y1,y2,y3]∧x.agg = .agg #[y0,y1,y2,y3]:=by cases x <;> exact ⟨_,_,_,_,rfl,rfl⟩
theorem It.fourc {x:It} {y0 y1 y2 y3:Value} {w:World} {b o:Nat} (hx:x.cells=[y0,y1,y2,y3]) (h:∀ j u,x.cells[j]?=some u→w.cell? ⟨b,o+j,none⟩=some u) :
  w.cell? ⟨b,o,none⟩=some y0∧w.cell? ⟨b,o+1,none⟩=some y1∧w.cell? ⟨b,o+2,none⟩=some y2∧w.cell? ⟨b,o+3,none⟩=some y3:=by
 rw [hx] at h
 exact ⟨h 0 _ rfl,h 1 _ rfl,h 2 _ rfl,h 3 _ rfl⟩
theorem ref_fmd_list (A:Option Addr) (n c:Nat) (l:List It) (W:World) (hA:Rd W W.heap.size 4 A n (l.flatMap It.cells)) (hn:n≤1000000) :
  Calls Tryz.prog 161 #[listV A n c] W (Ret (.bool true) W):=by
 have hl:Hid (l.length=n):=by have:=hA.1;rw [flat_len It.cells_length] at this;show _=_;omega
 unfold listV
 have BX:=Blk.new W 162 #[.int .i64 3,.int .i64 0,.string ⟨#[]⟩,.slice A n c] _ rfl
 have hb:=bAl (bRefl W) (.cells #[.int .i64 3,.int .i64 0,.string ⟨#[]⟩,.slice A n c] 162)
 go_enter Tryz.func161,Tryz.ntmps161
 go_upto_region 1 with fail
 generalize W.alloc (.cells #[.int .i64 3,.int .i64 0,.string ⟨#[]⟩,.slice A n c] 162)=w1 at *
 obtain ⟨m0,m1,m2,m3⟩:=box_cells BX
 go_wp2_with fail
 go_loopw [3] (fun i wr=>∃ k:Nat,k≤n∧i = .int .i64 k∧Below W.heap.size W wr∧Blk wr W.heap.size 162 #[.int .i64 3,.int .i64 0,.string ⟨#[]⟩,.slice A n c]) (fun i _=>n - (intOf i).toNat)
 case atStart=>exact ⟨0,Nat.zero_le _,rfl,hb,BX⟩
 case round =>
  clear hb BX m0 m1 m2 m3
  obtain ⟨k,hk,rfl,hb,BX⟩:=hrel
  obtain ⟨m0,m1,m2,m3⟩:=box_cells BX
  by_cases hlt:k<n
  ·obtain ⟨x,hx⟩:∃ x,Hid (l[k]?=some x):=⟨_,Lib.hid (List.getElem?_eq_getElem (by rw [hl.out];exact hlt))⟩
   obtain ⟨b,off,rfl,hbb,hc⟩:=It_at (hA.below hb) hlt hx.out
   obtain ⟨y0,y1,y2,y3,hx1,hx2⟩:=x.four
   obtain ⟨c0,c1,c2,c3⟩:=It.fourc hx1 hc
   have q:=fun w=>ref_fmd_leaf x w
   rw [hx2] at q
   clear hc hx1 hx2 hx
   go_wp2_with fail
   with_reducible refine (q _).mono ?_
   rintro e w2 ⟨rfl,b2⟩
   have hb2:=bCall hb b2
   have BX2:=BX.below b2 BX.lt
   clear hb b2 q BX
   go_wp2_with fail
   go_roundw
   case rel=>exact ⟨k+1,by omega,by go_num,hb2,BX2⟩
   case measure=>simp [intOf];omega
  ·go_wp2_with fail
   go_ret
   exact ⟨rfl,hb⟩
theorem ref_depth_list (A:Option Addr) (n c:Nat) (l:List It) (W:World) (hA:Rd W W.heap.size 4 A n (l.flatMap It.cells)) (hn:n≤1000000) :
  Calls Tryz.prog 162 #[listV A n c] W (Ret (.int .i64 1) W):=by
 have hl:Hid (l.length=n):=by have:=hA.1;rw [flat_len It.cells_length] at this;show _=_;omega
 unfold listV
 have BX:=Blk.new W 162 #[.int .i64 3,.int .i64 0,.string ⟨#[]⟩,.slice A n c] _ rfl
 have hb:=bAl (bRefl W) (.cells #[.int .i64 3,.int .i64 0,.string ⟨#[]⟩,.slice A n c] 162)
 go_enter Tryz.func162,Tryz.ntmps162
 go_upto_region 1 with fail
 generalize W.alloc (.cells #[.int .i64 3,.int .i64 0,.string ⟨#[]⟩,.slice A n c] 162)=w1 at *
 obtain ⟨m0,m1,m2,m3⟩:=box_cells BX
 go_wp2_with fail
 go_loopw [3,4] (fun d i wr=>∃ k:Nat,k≤n∧i = .int .i64 k∧d = .int .i64 0∧Below W.heap.size W wr∧Blk wr W.heap.size 162 #[.int .i64 3,.int .i64 0,.string ⟨#[]⟩,.slice A n c]) (fun _ i _=>n - (intOf i).toNat)
 case atStart=>exact ⟨0,Nat.zero_le _,rfl,rfl,hb,BX⟩
 case round =>
  clear hb BX m0 m1 m2 m3
  obtain ⟨k,hk,rfl,rfl,hb,BX⟩:=hrel
  obtain ⟨m0,m1,m2,m3⟩:=box_cells BX
  by_cases hlt:k<n
  ·obtain ⟨x,hx⟩:∃ x,Hid (l[k]?=some x):=⟨_,Lib.hid (List.getElem?_eq_getElem (by rw [hl.out];exact hlt))⟩
   obtain ⟨b,off,rfl,hbb,hc⟩:=It_at (hA.below hb) hlt hx.out
   obtain ⟨y0,y1,y2,y3,hx1,hx2⟩:=x.four
   obtain ⟨c0,c1,c2,c3⟩:=It.fourc hx1 hc
   have q:=fun w=>ref_depth_leaf x w
   rw [hx2] at q
   clear hc hx1 hx2 hx
   go_wp2_with fail
   with_reducible refine (q _).mono ?_
   rintro e w2 ⟨rfl,b2⟩
   have hb2:=bCall hb b2
   have BX2:=BX.below b2 BX.lt
   clear hb b2 q BX
   go_wp2_with fail
   go_roundw
   case rel=>exact ⟨k+1,by omega,by go_num,rfl,hb2,BX2⟩
   case measure=>simp [intOf];omega
  ·go_wp2_with fail
   go_ret
   exact ⟨rfl,hb⟩
theorem ref_ccheck (A:Option Addr) (n c:Nat) (l:List It) (W:World) (hA:Rd W W.heap.size 4 A n (l.flatMap It.cells)) (hn:n≤1000000) :
  Calls Tryz.prog 143 #[listV A n c] W (Ret (.int .i64 0) W):=by
 have hA2:=(hA.alloc (Nat.le_refl _) (.cells #[.int .i64 3,.int .i64 0,.string ⟨#[]⟩,.slice A n c] 162)).more (B':=(W.alloc (.cells #[.int .i64 3,.int .i64 0,.string ⟨#[]⟩,.slice A n c] 162)).heap.size) (by simp)
 have BX:=Blk.new W 162 #[.int .i64 3,.int .i64 0,.string ⟨#[]⟩,.slice A n c] _ rfl
 have hb:=bAl (bRefl W) (.cells #[.int .i64 3,.int .i64 0,.string ⟨#[]⟩,.slice A n c] 162)
 unfold listV
 go_enter Tryz.func143,Tryz.ntmps143
 go_upto_region 1 with fail
 generalize W.alloc (.cells #[.int .i64 3,.int .i64 0,.string ⟨#[]⟩,.slice A n c] 162)=w1 at *
 have q:=ref_fmd_list A n c l w1 hA2 hn
 obtain ⟨m0,m1,m2,m3⟩:=box_cells BX
 unfold listV at q
 go_wp2_with fail
 with_reducible refine q.mono ?_
 rintro e w2 ⟨rfl,b2⟩
 have hb2:=bCall hb b2
 have BX2:=BX.below b2 BX.lt
 have q2:=ref_depth_list A n c l w2 ((hA2.below b2).more b2.size) hn
 unfold listV at q2
 clear q hb b2 BX m0 m1 m2 m3
 obtain ⟨m0,m1,m2,m3⟩:=box_cells BX2
 go_wp2_with fail
 with_reducible refine q2.mono ?_
 rintro e w3 ⟨rfl,b3⟩
 have hb3:=bCall hb2 b3
 go_wp2_with fail
 go_ret
 exact ⟨rfl,hb3⟩
theorem ref_enc_int (m:Int) (W:World) (hm:(It.int m).ok) :
  Calls Tryz.prog 144 #[.agg #[.int .i64 1,.int .i64 m,.string ⟨#[]⟩,.slice none 0 0]] W (RetSl 1 (It.int m).enc.length (byts (It.int m).enc) W):=by
 obtain ⟨m0,m1⟩:=hm
 have hun:=unsN_lt m0 m1
 have hl:=(numF_len 10 (unsN m)).2
 have q1:=fun w=>ref_unsigned m w m0 m1
 have q2:=fun w=>ref_numeral (unsN m) w hun
 obtain ⟨L,hL⟩:∃ L,Hid (L=numN (unsN m)):=⟨_,Lib.hid rfl⟩
 rw [←hL.out] at q2
 have hl2:L.length≤11:=by rw [hL.out];exact hl
 generalize unsN m=u at q1 q2 hun
 have BX:=Blk.new W 162 #[.int .i64 1,.int .i64 m,.string ⟨#[]⟩,.slice none 0 0] _ rfl
 have hb:=bAl (bRefl W) (.cells #[.int .i64 1,.int .i64 m,.string ⟨#[]⟩,.slice none 0 0] 162)
 have hown0:=World.ownsRow_lit (base:=W.heap.size) (e:=5) (size:=1) (W.alloc (.cells #[.int .i64 1,.int .i64 m,.string ⟨#[]⟩,.slice none 0 0] 162)) #[.int .u8 1] 1 hb.size (by unfold maxLen;omega) rfl
 clear hl
 go_enter Tryz.func144,Tryz.ntmps144
 go_upto_region 1 with fail
 generalize W.alloc (.cells #[.int .i64 1,.int .i64 m,.string ⟨#[]⟩,.slice none 0 0] 162)=w1 at *
 obtain ⟨k0,k1,k2,k3⟩:=box_cells BX
 obtain ⟨j0,j1,j2,j3⟩:=box_cells (BX.alloc (.cells #[.int .u8 1] 5))
 go_wp2_with fail
 with_reducible refine (q1 _).mono ?_
 rintro e w2 ⟨rfl,rfl⟩
 go_wp2_with fail
 with_reducible refine (q2 _).mono ?_
 rintro e w3 ⟨v2,rfl,b3,A2,c2,rfl,hR,hc2,_,hnil⟩
 have hown:=ownsRow_keep hown0 b3
 have hb3:=bCall (bAl hb _) b3
 have hone:∀ q∈byts L,q.oneCell'=true:=byts_oneCell
 have h63:1+L.length≤maxLen:=by unfold maxLen;omega
 have hby:(1+L.length)*1≤140737488355328:=by omega
 have hbs:=hb3.size
 clear b3 q1 q2 hown0 k0 k1 k2 k3 BX hb
 go_wp2_with (at_builtin;refine wpList_appendG (.tmp 9) (.tmp 13) 123 W.heap.size 5 (.int .u8 0) 1 1 _ 1 _ A2 L.length c2 w3.heap.size (byts L) rfl rfl Tryz.underlying123 byte_info rfl (by omega) rfl hown rfl hR hnil hone h63 hby hbs ?_;intro v' w' hown4 hg4)
 go_ret
 refine ⟨_,rfl,hb3.trans (hg4.below hown hbs),?_⟩
 have hX:=Sl.of_own hown4
 have e:(It.int m).enc=1::L:=by rw [hL.out];rfl
 rw [e,List.length_cons,Nat.add_comm]
 exact hX
end Go.Proofs.YtoeobcmmafncmaaGreatDoor

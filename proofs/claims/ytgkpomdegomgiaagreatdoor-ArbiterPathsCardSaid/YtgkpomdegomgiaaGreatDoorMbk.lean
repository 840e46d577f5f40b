/- The reference's digest: a block, walked. -/
import Derived.Test.YtgkpomdegomgiaaGreatDoorMbj
import Derived.Test.YtgkpomdegomgiaaGreatDoorMai
import Derived.Test.YtgkpomdegomgiaaGreatDoorMac
import Derived.Test.YtgkpomdegomgiaaGreatDoorMad
import Derived.Test.YtgkpomdegomgiaaGreatDoorMaw
set_option maxRecDepth 1000000
set_option maxHeartbeats 16000000
namespace Go.Proofs.YtgkpomdegomgiaaGreatDoor
open Go.RowKit
theorem byts_cell {w:World} {B n b off:Nat} {l:List Nat} (h:Rd w B 1 (some ⟨b,off,none⟩) n (byts l)) (hn:n≠0) {j x:Nat} (hx:l[j]?=some x):w.cell? ⟨b,off+j,none⟩=some (.int .u8 x):=by
  obtain ⟨b',off',e,_,hc⟩:=h.2 (by omega)
  injection e with e
  injection e with e1 e2
  subst e1;subst e2
  exact hc _ _ (byts_at hx)
theorem ch_nat (e f g:Nat) (hg:g<4294967296):(e &&& f) ^^^ ((4294967295 ^^^ e) &&& g)=g ^^^ (e &&& (f ^^^ g)):=by
  apply Nat.eq_of_testBit_eq
  intro i
  simp only [Nat.testBit_xor,Nat.testBit_and]
  have h1:(4294967295:Nat).testBit i=decide (i<32):=by
    rw [show (4294967295:Nat)=2 ^ 32 - 1 from rfl];exact Nat.testBit_two_pow_sub_one 32 i
  rw [h1]
  by_cases h:i<32
  · rw [decide_eq_true h];cases e.testBit i <;> cases f.testBit i <;> cases g.testBit i <;> rfl
  · have h2:g.testBit i=false:=Nat.testBit_lt_two_pow (Nat.lt_of_lt_of_le hg (Nat.pow_le_pow_right (n:=2) (by omega) (show 32≤i by omega)))
    rw [h2,decide_eq_false h];cases e.testBit i <;> cases f.testBit i <;> rfl
theorem maj_nat (a b c:Nat):(a &&& b) ^^^ (a &&& c) ^^^ (b &&& c)=(a &&& b) ||| (c &&& (a ||| b)):=by
  apply Nat.eq_of_testBit_eq
  intro i
  simp only [Nat.testBit_xor,Nat.testBit_and,Nat.testBit_or]
  cases a.testBit i <;> cases b.testBit i <;> cases c.testBit i <;> rfl
theorem w32 (z:Int):IntKind.u32.wrap z=z % 4294967296:=by rw [IntKind.wrap_u32]
theorem rP_int (s:S8) (k x:Nat) (he:s.e<4294967296) (hf:s.f<4294967296) (hg:s.g<4294967296) :
    IntKind.u32.wrap (IntKind.u32.wrap (IntKind.u32.wrap (IntKind.u32.wrap ((s.h:Int)+bits BinOp.xor IntKind.u32 (bits BinOp.xor IntKind.u32 (rotN s.e 6:Nat) (rotN s.e 11:Nat)) (rotN s.e 25:Nat))+bits BinOp.xor IntKind.u32 (bits BinOp.and IntKind.u32 (s.e:Int) (s.f:Int)) (bits BinOp.and IntKind.u32 (bits BinOp.xor IntKind.u32 IntKind.u32.max (s.e:Int)) (s.g:Int)))+(k:Int))+(x:Int))=((roundP s k x:Nat):Int):=by
  have hm:IntKind.u32.max=((4294967295:Nat):Int):=rfl
  have l1:=xor_lt (rotN_lt (a:=6) he) (rotN_lt (a:=11) he)
  have l2:4294967295 ^^^ s.e<4294967296:=xor_lt (by omega) he
  rw [hm,xor_nat _ _ (rotN_lt he) (rotN_lt he),xor_nat _ _ l1 (rotN_lt he),xor_nat _ _ (by omega) he,and_nat _ _ l2 hg,and_nat _ _ he hf,xor_nat _ _ (and_lt he) (and_lt l2),ch_nat _ _ _ hg]
  simp only [w32]
  unfold roundP rot3
  omega
theorem rQ_int (s:S8) (ha:s.a<4294967296) (hb:s.b<4294967296) (hc:s.c<4294967296) :
    (bits BinOp.xor IntKind.u32 (bits BinOp.xor IntKind.u32 (rotN s.a 2:Nat) (rotN s.a 13:Nat)) (rotN s.a 22:Nat)+bits BinOp.xor IntKind.u32 (bits BinOp.xor IntKind.u32 (bits BinOp.and IntKind.u32 (s.a:Int) (s.b:Int)) (bits BinOp.and IntKind.u32 (s.a:Int) (s.c:Int))) (bits BinOp.and IntKind.u32 (s.b:Int) (s.c:Int))) % 4294967296=((roundQ s:Nat):Int):=by
  have l1:=xor_lt (rotN_lt (a:=2) ha) (rotN_lt (a:=13) ha)
  rw [xor_nat _ _ (rotN_lt ha) (rotN_lt ha),xor_nat _ _ l1 (rotN_lt ha),and_nat _ _ ha hb,and_nat _ _ ha hc,and_nat _ _ hb hc,xor_nat _ _ (and_lt ha) (and_lt ha),xor_nat _ _ (xor_lt (and_lt ha) (and_lt ha)) (and_lt hb),maj_nat]
  unfold roundQ rot3
  omega
theorem ref_block (s:S8) (b off c:Nat) (l:List Nat) (W:World) (hs:s.ok) (hA:Rd W W.heap.size 1 (some ⟨b,off,none⟩) 64 (byts l)) (ho:okB l) (hc:64≤c) (hc2:c≤9223372036854775807) :
    Calls Tryz.prog 156 #[.agg #[.int .u32 s.a,.int .u32 s.b,.int .u32 s.c,.int .u32 s.d,.int .u32 s.e,.int .u32 s.f,.int .u32 s.g,.int .u32 s.h],.slice (some ⟨b,off,none⟩) 64 c] W (Ret (.agg (u32s (blockS s l).list).toArray) W):=by
  have hl:Hid (l.length=64):=by have:=hA.1;rw [byts_length,Nat.mul_one] at this;exact this
  obtain ⟨_,_,e,hbb,-⟩:=hA.2 (by omega)
  injection e with e
  injection e with e1 e2 e3
  subst e1;subst e2;clear e3
  go_enter Tryz.func156,Tryz.ntmps156
  go_upto_region 1 with fail
  have hb:=bAl (bAl (bRefl W) (.cells (u32s s.list).toArray 201)) (.cells (u32s [0,0,0,0,0,0,0,0]).toArray 201)
  have BS:=(Blk.new W 201 (u32s s.list).toArray _ rfl).alloc (.cells (u32s [0,0,0,0,0,0,0,0]).toArray 201)
  have BR:=Blk.new (W.alloc (.cells (u32s s.list).toArray 201)) 201 (u32s [0,0,0,0,0,0,0,0]).toArray (W.heap.size+1) (by simp)
  change Code.wp _ _ _ _ ((W.alloc (.cells (u32s s.list).toArray 201)).alloc (.cells (u32s [0,0,0,0,0,0,0,0]).toArray 201))
  generalize (W.alloc (.cells (u32s s.list).toArray 201)).alloc (.cells (u32s [0,0,0,0,0,0,0,0]).toArray 201)=w0 at *
  apply wp_region_lit
  iterate 6 go_step
  refine wpList_storeG (v := .agg (fillW []).toArray) (by rfl) (by rfl) (by rfl) (by rfl) (store_newW (by exact w64_info) (by rfl) (u32s_one _)) ?_
  simp only [Act.put]
  have BW:=Blk.new w0 209 (fillW []).toArray _ rfl
  have hws:W.heap.size+1<w0.heap.size:=BR.lt
  replace hb:=bAl hb (.cells (fillW []).toArray 209)
  replace BS:=BS.alloc (.cells (fillW []).toArray 209)
  replace BR:=BR.alloc (.cells (fillW []).toArray 209)
  change wpList _ _ _ _ _ (w0.alloc (.cells (fillW []).toArray 209))
  generalize w0.alloc (.cells (fillW []).toArray 209)=w1 at *
  generalize w0.heap.size=wb at *
  go_wp2_with fail
  go_loopw [6] (fun i wr=>∃ k:Nat,k≤16∧i = .int .i64 k∧Below W.heap.size W wr∧Blk wr W.heap.size 201 (u32s s.list).toArray∧Blk wr (W.heap.size+1) 201 (u32s [0,0,0,0,0,0,0,0]).toArray∧Blk wr wb 209 (fillW (words l k)).toArray) (fun i _=>16 - (intOf i).toNat)
  case atStart=>exact ⟨0,Nat.zero_le _,rfl,hb,BS,BR,BW⟩
  case round =>
    clear hb BS BR BW
    obtain ⟨k,hk,rfl,hb,BS,BR,BW⟩:=hrel
    by_cases hlt:k<16
    · obtain ⟨x0,hx0⟩:∃ x,Hid (l[4*k]?=some x):=⟨_,Lib.hid (List.getElem?_eq_getElem (by have:=hl.out;omega))⟩
      obtain ⟨x1,hx1⟩:∃ x,Hid (l[4*k+1]?=some x):=⟨_,Lib.hid (List.getElem?_eq_getElem (by have:=hl.out;omega))⟩
      obtain ⟨x2,hx2⟩:∃ x,Hid (l[4*k+2]?=some x):=⟨_,Lib.hid (List.getElem?_eq_getElem (by have:=hl.out;omega))⟩
      obtain ⟨x3,hx3⟩:∃ x,Hid (l[4*k+3]?=some x):=⟨_,Lib.hid (List.getElem?_eq_getElem (by have:=hl.out;omega))⟩
      have q:=ref_word b (off+4*k) (c - 4*k) x0 x1 x2 x3 wr ((hb.cell (p:=⟨b,off+4*k,none⟩) hbb).trans (byts_cell hA (by omega) hx0.out)) ((hb.cell (p:=⟨b,off+(4*k+1),none⟩) hbb).trans (byts_cell hA (by omega) hx1.out))
        ((hb.cell (p:=⟨b,off+(4*k+2),none⟩) hbb).trans (byts_cell hA (by omega) hx2.out)) ((hb.cell (p:=⟨b,off+(4*k+3),none⟩) hbb).trans (byts_cell hA (by omega) hx3.out))
        (ho _ (List.mem_of_getElem? hx0.out)) (ho _ (List.mem_of_getElem? hx1.out)) (ho _ (List.mem_of_getElem? hx2.out)) (ho _ (List.mem_of_getElem? hx3.out))
      rw [show wordN x0 x1 x2 x3=wordAt l k by unfold wordAt;rw [hx0.out,hx1.out,hx2.out,hx3.out];rfl] at q
      have i0:(0:Int)≤4 * (k:Int):=by omega
      have i1:IntKind.i64.wrap (4 * (k:Int))=4 * (k:Int):=by rw [IntKind.wrap_i64];omega
      have i2:IntKind.i64.wrap (4 * (k:Int)+4)=4 * (k:Int)+4:=by rw [IntKind.wrap_i64];omega
      have i3:4 * (k:Int)+4≤(c:Int):=by omega
      have i4:(4 * (k:Int)).toNat=4*k:=by omega
      have i5:(4 * (k:Int)+4).toNat=4*k+4:=by omega
      have i6:(0:Int)≤4 * (k:Int)+4:=by omega
      have n1:¬(c=4*k):=by omega
      obtain ⟨v,hv⟩:=fill_there BW (by rw [words_len];omega) (show k<64 by omega)
      have hk64:k<64:=by omega
      have hwl:=Lib.hid (words_len l k)
      go_wp2_with fail
      (with_reducible refine q.mono ?_)
      rintro e w' ⟨rfl,b'⟩
      have hb':=bCall hb b'
      have BS':=BS.below b' BS.lt
      have BR':=BR.below b' BR.lt
      have BW':=BW.below b' BW.lt
      obtain ⟨v',hv'⟩:=fill_there BW' (by rw [hwl.out];omega) hk64
      have hz:=BW'.frozen k
      clear q hb BS BR BW b' hv
      go_wp2_with fail
      go_roundw
      case rel=>exact ⟨k+1,by omega,by go_num,bSet hb' (by show W.heap.size≤wb;omega) _,BS'.far (by show W.heap.size≠wb;omega) _,BR'.far (by show W.heap.size+1≠wb;omega) _,by rw [words_succ];exact BW'.fill (by rw [hwl.out];omega) k _ hwl.out⟩
      case measure=>simp [intOf];omega
    · have hk16:k=16:=by omega
      rw [hk16] at BW
      clear hk16
      have hW0:Hid (words l 16=schedW (words l 16) 0):=rfl
      rw [hW0.out] at BW
      go_wp2_with fail
      go_loopw [7] (fun i wr=>∃ (j:Nat) (ws:List Nat),16≤j∧j≤64∧i = .int .i64 j∧Below W.heap.size W wr∧Blk wr W.heap.size 201 (u32s s.list).toArray∧Blk wr (W.heap.size+1) 201 (u32s [0,0,0,0,0,0,0,0]).toArray∧Blk wr wb 209 (fillW ws).toArray∧Hid (ltU ws∧ws.length=j∧ws=schedW (words l 16) (j - 16))) (fun i _=>64 - (intOf i).toNat)
      case atStart=>exact ⟨16,_,Nat.le_refl _,by omega,rfl,hb,BS,BR,BW,Lib.hid ⟨words_lt ho 16,words_len _ _,rfl⟩⟩
      case round =>
        clear hb BS BR BW hlt hk hW0
        obtain ⟨j,ws,hj16,hj64,rfl,hb,BS,BR,BW,hW⟩:=hrel
        by_cases hlt:j<64
        · obtain ⟨hWl,hWn,hWe⟩:=hW.out
          obtain ⟨x16,h16⟩:∃ x,Hid (ws[j - 16]?=some x):=⟨_,Lib.hid (List.getElem?_eq_getElem (by omega))⟩
          obtain ⟨x15,h15⟩:∃ x,Hid (ws[j - 15]?=some x):=⟨_,Lib.hid (List.getElem?_eq_getElem (by omega))⟩
          obtain ⟨x7,h7⟩:∃ x,Hid (ws[j - 7]?=some x):=⟨_,Lib.hid (List.getElem?_eq_getElem (by omega))⟩
          obtain ⟨x2,h2⟩:∃ x,Hid (ws[j - 2]?=some x):=⟨_,Lib.hid (List.getElem?_eq_getElem (by omega))⟩
          have l15:=hWl _ (List.mem_of_getElem? h15.out)
          have l2:=hWl _ (List.mem_of_getElem? h2.out)
          have d15:=fill_cell BW h15.out
          have d2:=fill_cell BW h2.out
          have i15:(0:Int)≤(j:Int) - 15:=by omega
          have i15':(j:Int) - 15<64:=by omega
          have i2:(0:Int)≤(j:Int) - 2:=by omega
          have i2':(j:Int) - 2<64:=by omega
          have i16:(0:Int)≤(j:Int) - 16:=by omega
          have i16':(j:Int) - 16<64:=by omega
          have i7:(0:Int)≤(j:Int) - 7:=by omega
          have i7':(j:Int) - 7<64:=by omega
          have w16:IntKind.i64.wrap ((j:Int) - 16)=(j:Int) - 16:=by rw [IntKind.wrap_i64];omega
          have w7:IntKind.i64.wrap ((j:Int) - 7)=(j:Int) - 7:=by rw [IntKind.wrap_i64];omega
          have n16:((j:Int) - 16).toNat=j - 16:=by omega
          have n7:((j:Int) - 7).toNat=j - 7:=by omega
          have j0:(0:Int)≤(j:Int):=by omega
          have k16:(16:Int)≤(j:Int):=by omega
          have k7:(7:Int)≤(j:Int):=by omega
          have j64:(j:Int)<64:=by omega
          have hwlen:=Lib.hid hWn
          clear hWl hWn hWe
          go_upto_region 11 with fail
          clear d15 d2
          have KS:Hid (∀ w',Below wr.heap.size wr w'→w'.cell? ⟨wb,j - 16,none⟩=some (.int .u32 x16)∧w'.cell? ⟨wb,j - 7,none⟩=some (.int .u32 x7)):=Lib.hid (fun w' h=>⟨fill_cell (BW.below h BW.lt) h16.out,fill_cell (BW.below h BW.lt) h7.out⟩)
          refine wp_region_schB (f:=29) KS [(0,1),(1,1),(2,1),(3,1),(4,2),(5,1),(7,1),(10,1),(11,1),(14,1),(15,1),(16,1),(17,2),(19,1),(21,1),(24,1),(25,1),(6,0),(8,0),(9,1),(12,1),(13,1),(18,1),(20,0),(22,0),(23,1),(26,1),(27,1),(28,1),(29,3)] ?_
          simp only [pickS,List.getElem?_cons_zero,List.getElem?_cons_succ]
          refine wpSched_t ?_
          refine wpSched_t ?_
          refine wpSched_t ?_
          refine wpSched_t ?_
          refine wpSched_r ?_
          refine wpSched_t ?_
          refine wpSched_t ?_
          refine wpSched_t ?_
          refine wpSched_t ?_
          refine wpSched_t ?_
          refine wpSched_t ?_
          refine wpSched_t ?_
          refine wpSched_r ?_
          refine wpSched_t ?_
          refine wpSched_t ?_
          refine wpSched_t ?_
          refine wpSched_t ?_
          refine wpSched_force (fun K hK=>?_)
          go_simp;(first | (go_at_call 167;(first | (with_reducible refine (ror_7 _ _ l15).mono ?_) | (with_reducible refine (ror_18 _ _ l15).mono ?_) | (with_reducible refine (ror_17 _ _ l2).mono ?_) | (with_reducible refine (ror_19 _ _ l2).mono ?_));rintro e w9 ⟨rfl,b9⟩;have B7:Below wr.heap.size wr w9:=bCall (by repeat (first | with_reducible exact B7 | with_reducible exact bRefl _ | with_reducible refine bDr ?_)) b9) | skip)
          refine shut_go hK KS ?_
          clear hK K
          refine wpSched_force (fun K hK=>?_)
          go_simp;(first | (go_at_call 167;(first | (with_reducible refine (ror_7 _ _ l15).mono ?_) | (with_reducible refine (ror_18 _ _ l15).mono ?_) | (with_reducible refine (ror_17 _ _ l2).mono ?_) | (with_reducible refine (ror_19 _ _ l2).mono ?_));rintro e w9 ⟨rfl,b9⟩;have B7:Below wr.heap.size wr w9:=bCall (by repeat (first | with_reducible exact B7 | with_reducible exact bRefl _ | with_reducible refine bDr ?_)) b9) | skip)
          refine shut_go hK KS ?_
          clear hK K
          refine wpSched_t ?_
          refine wpSched_t ?_
          refine wpSched_t ?_
          refine wpSched_t ?_
          refine wpSched_force (fun K hK=>?_)
          go_simp;(first | (go_at_call 167;(first | (with_reducible refine (ror_7 _ _ l15).mono ?_) | (with_reducible refine (ror_18 _ _ l15).mono ?_) | (with_reducible refine (ror_17 _ _ l2).mono ?_) | (with_reducible refine (ror_19 _ _ l2).mono ?_));rintro e w9 ⟨rfl,b9⟩;have B7:Below wr.heap.size wr w9:=bCall (by repeat (first | with_reducible exact B7 | with_reducible exact bRefl _ | with_reducible refine bDr ?_)) b9) | skip)
          refine shut_go hK KS ?_
          clear hK K
          refine wpSched_force (fun K hK=>?_)
          go_simp;(first | (go_at_call 167;(first | (with_reducible refine (ror_7 _ _ l15).mono ?_) | (with_reducible refine (ror_18 _ _ l15).mono ?_) | (with_reducible refine (ror_17 _ _ l2).mono ?_) | (with_reducible refine (ror_19 _ _ l2).mono ?_));rintro e w9 ⟨rfl,b9⟩;have B7:Below wr.heap.size wr w9:=bCall (by repeat (first | with_reducible exact B7 | with_reducible exact bRefl _ | with_reducible refine bDr ?_)) b9) | skip)
          refine shut_go hK KS ?_
          clear hK K
          refine wpSched_t ?_
          refine wpSched_t ?_
          refine wpSched_t ?_
          refine wpSched_t ?_
          refine wpSched_last ?_
          first | simp only [List.map_nil] | simp only [List.map_cons,List.map_nil]
          have hb2:=bCall hb B7
          have BS2:=BS.below B7 BS.lt
          have BR2:=BR.below B7 BR.lt
          have BW2:=BW.below B7 BW.lt
          clear hb BS BR BW KS B7
          obtain ⟨v,hv⟩:=fill_there BW2 (by rw [hwlen.out];omega) (show j<64 by omega)
          have hz:=BW2.frozen j
          go_wp2_with fail
          refine NoPanic.normal ?_
          go_wp2_with fail
          have hvv:=Lib.hid (nextW_int x16 x15 x7 x2 l15 l2)
          rw [hvv.out]
          have hw':=Lib.hid (grow_step hW.out hj16 h16.out h15.out h7.out h2.out)
          exact ⟨⟨j+1,ws++[nextW x16 x15 x7 x2],by omega,by omega,by go_num,bSet hb2 (by show W.heap.size≤wb;omega) _,BS2.far (by show W.heap.size≠wb;omega) _,BR2.far (by show W.heap.size+1≠wb;omega) _,BW2.fill (by rw [hwlen.out];exact hlt) j _ hwlen.out,hw'.out⟩,by simp [intOf];omega⟩
        · have hj:j=64:=by omega
          obtain ⟨hWl,hWn,hWe⟩:=hW.out
          rw [hj] at hWe hWn
          clear hj
          rw [show 64 - 16=48 from rfl] at hWe
          have hWl':=Lib.hid hWl
          have hWn':=Lib.hid hWn
          have hWe':=Lib.hid hWe
          clear hWl hWn hWe hW
          have qk:=ref_numbers wr
          obtain ⟨K,hK⟩:∃ K,Hid (K=(u32s shaK).toArray):=⟨_,Lib.hid rfl⟩
          rw [←hK.out] at qk
          have hKs:K.size=64:=by rw [hK.out];rfl
          have hK1:∀ v∈K.toList,v.oneCell'=true:=by rw [hK.out];exact u32s_one shaK
          go_wp2_with fail
          (with_reducible refine qk.mono ?_)
          rintro e w2 ⟨rfl,b2⟩
          have hb2:=bCall hb b2
          have BS2:=BS.below b2 BS.lt
          have BR2:=BR.below b2 BR.lt
          have BW2:=BW.below b2 BW.lt
          clear qk hb BS BR BW b2
          dsimp only
          (refine ‹∀ (a:Act) (w:World),wpList _ _ _ _ a w→_› _ _ ?_)
          iterate 3 go_step
          refine wpList_storeG (v := .agg K) (by rfl) (by rfl) (by rfl) (by rfl) (store_newW (by rw [hKs];exact w64_info) (by rw [hKs];rfl) hK1) ?_
          simp only [Act.put]
          have BK:=Blk.new w2 209 K _ rfl
          have BS3:=BS2.alloc (.cells K 209)
          have BR3:=BR2.alloc (.cells K 209)
          have BW3:=BW2.alloc (.cells K 209)
          have hb3:=bAl hb2 (.cells K 209)
          have hwk:wb<w2.heap.size:=BW2.lt
          clear hb2 BS2 BR2 BW2
          generalize w2.alloc (.cells K 209)=w3 at *
          generalize w2.heap.size=kb at *
          obtain ⟨q0,q1,q2,q3,q4,q5,q6,q7⟩:=st_cells BS3
          go_upto_region 13 with fail
          go_quiet (fail)
          have BS4:Blk (w3.drewN nq) W.heap.size 201 (u32s s.list).toArray:=BS3
          have BR4:Blk (w3.drewN nq) (W.heap.size+1) 201 (u32s [0,0,0,0,0,0,0,0]).toArray:=BR3
          have BW4:Blk (w3.drewN nq) wb 209 (fillW ws).toArray:=BW3
          have BK4:Blk (w3.drewN nq) kb 209 K:=BK
          have hb4:=bDrN hb3 nq
          clear q0 q1 q2 q3 q4 q5 q6 q7 BS3 BR3 BW3 BK hb3 hj16 hj64 hlt
          generalize w3.drewN nq=w4 at *
          go_wp2_with fail
          go_loopw [11,12,13,14,15,16,17,18,19] (fun va vb vc vd ve vf vg vh i wr=>∃ (t:Nat) (vs:S8),t≤64∧i = .int .i64 t∧va = .int .u32 vs.a∧vb = .int .u32 vs.b∧vc = .int .u32 vs.c∧vd = .int .u32 vs.d∧ve = .int .u32 vs.e∧vf = .int .u32 vs.f∧vg = .int .u32 vs.g∧vh = .int .u32 vs.h∧Below W.heap.size W wr ∧
            Blk wr W.heap.size 201 (u32s s.list).toArray∧Blk wr (W.heap.size+1) 201 (u32s [0,0,0,0,0,0,0,0]).toArray∧Blk wr wb 209 (fillW ws).toArray∧Blk wr kb 209 K∧vs.ok∧Hid (vs=roundsS shaK ws s t)) (fun _ _ _ _ _ _ _ _ i _=>64 - (intOf i).toNat)
          case atStart=>exact ⟨0,s,Nat.zero_le _,rfl,rfl,rfl,rfl,rfl,rfl,rfl,rfl,rfl,hb4,BS4,BR4,BW4,BK4,hs,Lib.hid rfl⟩
          case round =>
            clear BS4 BR4 BW4 BK4 hb4
            obtain ⟨t,vs,ht64,rfl,rfl,rfl,rfl,rfl,rfl,rfl,rfl,rfl,hb,BS,BR,BW,BK,hvo,hvs⟩:=hrel
            by_cases hlt:t<64
            · obtain ⟨xt,hxt⟩:∃ x,Hid (ws[t]?=some x):=⟨_,Lib.hid (List.getElem?_eq_getElem (by rw [hWn'.out];exact hlt))⟩
              obtain ⟨kt,hkt⟩:∃ x,Hid (shaK[t]?=some x):=⟨_,Lib.hid (List.getElem?_eq_getElem (by rw [shaK_len];exact hlt))⟩
              obtain ⟨o0,o1,o2,o3,o4,o5,o6,o7⟩:=hvo
              have it:(t:Int)<64:=by omega
              have it0:(0:Int)≤(t:Int):=by omega
              have KS:Hid (∀ w',Below wr.heap.size wr w'→w'.cell? ⟨kb,t,none⟩=some (.int .u32 kt)∧w'.cell? ⟨wb,t,none⟩=some (.int .u32 xt)):=Lib.hid (fun w' h=>⟨((BK.below h BK.lt).cell t).trans (by rw [hK.out,List.getElem?_toArray];exact u32s_at hkt.out),fill_cell (BW.below h BW.lt) hxt.out⟩)
              go_upto_region 17 with fail
              refine wp_region_schB (f:=27) KS [(0,1),(1,1),(3,1),(6,1),(10,1),(11,1),(12,1),(13,1),(14,1),(15,1),(16,1),(17,1),(19,1),(20,1),(21,2),(23,1),(24,1),(25,2),(2,0),(4,0),(5,1),(7,0),(8,1),(9,1),(18,1),(22,1),(26,1),(27,3)] ?_
              simp only [pickS,List.getElem?_cons_zero,List.getElem?_cons_succ]
              refine wpSched_t ?_
              refine wpSched_t ?_
              refine wpSched_t ?_
              refine wpSched_t ?_
              refine wpSched_t ?_
              refine wpSched_t ?_
              refine wpSched_t ?_
              refine wpSched_t ?_
              refine wpSched_t ?_
              refine wpSched_t ?_
              refine wpSched_t ?_
              refine wpSched_t ?_
              refine wpSched_t ?_
              refine wpSched_t ?_
              refine wpSched_r ?_
              refine wpSched_t ?_
              refine wpSched_t ?_
              refine wpSched_r ?_
              refine wpSched_force (fun K hK=>?_)
              go_simp;(first | (go_at_call 167;(first | (with_reducible refine (ror_6 _ _ o4).mono ?_) | (with_reducible refine (ror_11 _ _ o4).mono ?_) | (with_reducible refine (ror_25 _ _ o4).mono ?_));rintro e w9 ⟨rfl,b9⟩;have B7:Below wr.heap.size wr w9:=bCall (by repeat (first | with_reducible exact B7 | with_reducible exact bRefl _ | with_reducible refine bDr ?_)) b9) | skip)
              refine shut_go hK KS ?_
              clear hK K
              refine wpSched_force (fun K hK=>?_)
              go_simp;(first | (go_at_call 167;(first | (with_reducible refine (ror_6 _ _ o4).mono ?_) | (with_reducible refine (ror_11 _ _ o4).mono ?_) | (with_reducible refine (ror_25 _ _ o4).mono ?_));rintro e w9 ⟨rfl,b9⟩;have B7:Below wr.heap.size wr w9:=bCall (by repeat (first | with_reducible exact B7 | with_reducible exact bRefl _ | with_reducible refine bDr ?_)) b9) | skip)
              refine shut_go hK KS ?_
              clear hK K
              refine wpSched_t ?_
              refine wpSched_force (fun K hK=>?_)
              go_simp;(first | (go_at_call 167;(first | (with_reducible refine (ror_6 _ _ o4).mono ?_) | (with_reducible refine (ror_11 _ _ o4).mono ?_) | (with_reducible refine (ror_25 _ _ o4).mono ?_));rintro e w9 ⟨rfl,b9⟩;have B7:Below wr.heap.size wr w9:=bCall (by repeat (first | with_reducible exact B7 | with_reducible exact bRefl _ | with_reducible refine bDr ?_)) b9) | skip)
              refine shut_go hK KS ?_
              clear hK K
              refine wpSched_t ?_
              refine wpSched_t ?_
              refine wpSched_t ?_
              refine wpSched_t ?_
              refine wpSched_t ?_
              refine wpSched_last ?_
              first | simp only [List.map_nil] | simp only [List.map_cons,List.map_nil]
              go_wp2_with fail
              refine NoPanic.normal ?_
              have hP:=rP_int vs kt xt o4 o5 o6
              rw [hP]
              clear hP KS
              generalize hpp:roundP vs kt xt=P at *
              have Hpp:=Lib.hid hpp
              have hPl:P<4294967296:=by rw [←hpp];exact Nat.mod_lt _ (by decide)
              clear hpp
              go_upto_region 18 with fail
              go_wp2_with fail
              (with_reducible refine (ror_2 _ _ o0).mono ?_)
              rintro e wa ⟨rfl,ba⟩
              go_wp2_with fail
              (with_reducible refine (ror_13 _ _ o0).mono ?_)
              rintro e wc ⟨rfl,bc⟩
              go_wp2_with fail
              (with_reducible refine (ror_22 _ _ o0).mono ?_)
              rintro e wd ⟨rfl,bd⟩
              have B8:=bCall B7 (bCall (bCall ba bc) bd)
              have hb8:=bCall hb B8
              have BS8:=BS.below B8 BS.lt
              have BR8:=BR.below B8 BR.lt
              have BW8:=BW.below B8 BW.lt
              have BK8:=BK.below B8 BK.lt
              clear hb BS BR BW BK B7 B8 ba bc bd
              go_upto_region 19 with fail
              have hQ:=rQ_int vs o0 o1 o2
              rw [hQ]
              clear hQ
              have hp4:Hid (((vs.d:Int)+(P:Nat)) % 4294967296=(((vs.d+P) % 4294967296:Nat):Int)):=by show _=_;omega
              have hp0:Hid (((P:Nat)+(roundQ vs:Nat):Int) % 4294967296=(((P+roundQ vs) % 4294967296:Nat):Int)):=by show _=_;omega
              have hrs:=Lib.hid (rounds_step hvs.out hkt.out hxt.out)
              have hok:=Lib.hid (roundS_ok (k:=kt) (w:=xt) (show vs.ok from ⟨o0,o1,o2,o3,o4,o5,o6,o7⟩))
              go_wp2_with fail
              rw [hp4.out,hp0.out]
              rw [←Hpp.out]
              exact ⟨⟨t+1,roundS vs kt xt,by omega,by go_num,rfl,rfl,rfl,rfl,rfl,rfl,rfl,rfl,hb8,BS8,BR8,BW8,BK8,hok.out,hrs⟩,by simp [intOf];omega⟩
            · have ht:t=64:=by omega
              have hvs':=hvs.out
              rw [ht] at hvs'
              have HVS:=Lib.hid hvs'
              clear ht hvs'
              obtain ⟨q0,q1,q2,q3,q4,q5,q6,q7⟩:=st_cells BS
              have hX:(#[.int .u32 (IntKind.u32.wrap ((s.a:Nat)+(vs.a:Nat):Int)),.int .u32 (IntKind.u32.wrap ((s.b:Nat)+(vs.b:Nat):Int)),.int .u32 (IntKind.u32.wrap ((s.c:Nat)+(vs.c:Nat):Int)),.int .u32 (IntKind.u32.wrap ((s.d:Nat)+(vs.d:Nat):Int)),.int .u32 (IntKind.u32.wrap ((s.e:Nat)+(vs.e:Nat):Int)),.int .u32 (IntKind.u32.wrap ((s.f:Nat)+(vs.f:Nat):Int)),.int .u32 (IntKind.u32.wrap ((s.g:Nat)+(vs.g:Nat):Int)),.int .u32 (IntKind.u32.wrap ((s.h:Nat)+(vs.h:Nat):Int))]:Array Value)=(u32s (blockS s l).list).toArray:=by
                unfold blockS
                rw [←hWe'.out,←HVS.out]
                simp [u32s,S8.list,addS,w32]
              go_upto_region 20 with fail
              apply wp_region_lit
              iterate 99 go_step
              refine wpList_storeG (v := .agg #[.int .u32 (IntKind.u32.wrap ((s.a:Nat)+(vs.a:Nat):Int)),.int .u32 (IntKind.u32.wrap ((s.b:Nat)+(vs.b:Nat):Int)),.int .u32 (IntKind.u32.wrap ((s.c:Nat)+(vs.c:Nat):Int)),.int .u32 (IntKind.u32.wrap ((s.d:Nat)+(vs.d:Nat):Int)),.int .u32 (IntKind.u32.wrap ((s.e:Nat)+(vs.e:Nat):Int)),.int .u32 (IntKind.u32.wrap ((s.f:Nat)+(vs.f:Nat):Int)),.int .u32 (IntKind.u32.wrap ((s.g:Nat)+(vs.g:Nat):Int)),.int .u32 (IntKind.u32.wrap ((s.h:Nat)+(vs.h:Nat):Int))]) (by rfl) (by rfl) (by rfl) (by rfl) (store_whole BR (by exact (by kernel_rfl:(Tryz.prog.info? 201).map (·.size)=some 8)) (by rfl) (by intro v hv;simp only [List.mem_cons,List.not_mem_nil,or_false] at hv;rcases hv with rfl | rfl | rfl | rfl | rfl | rfl | rfl | rfl <;> rfl)) ?_
              simp only [Act.put]
              rw [hX]
              have BR2:=BR.row (u32s (blockS s l).list).toArray
              have hb2:=below_setRow hb (show W.heap.size≤W.heap.size+1 by omega) (u32s (blockS s l).list).toArray
              generalize wr.setRow (W.heap.size+1) (u32s (blockS s l).list).toArray=w6 at *
              go_wp2_with fail
              exact bodyPost_ret (v := .agg (u32s (blockS s l).list).toArray) (results_cell_row rfl _ _ (W.heap.size+1) 201 _ (0,0) _ rfl BR2 Tryz.underlying201 rfl (by kernel_rfl)) rfl ⟨rfl,hb2⟩
theorem one_u8 (X:Int):∀ q∈[Value.int .u8 X],q.oneCell'=true:=by intro q hq;simp at hq;subst hq;rfl
theorem own_byte {w:World} {base n:Nat} {v:Value} {L:List Nat} {x:Nat} {Y:Int} (h:w.ownsRow base 5 1 v (n+1) (byts L++[.int .u8 Y])) (hY:Y=(x:Nat)):w.ownsRow base 5 1 v (n+1) (byts (L++[x])):=by
  subst hY
  unfold byts
  rw [List.map_append]
  exact h
theorem bytesN_next (N k:Nat) (h:k<8):bytesN (N / 256 ^ (8 - (k+1))) (k+1)=bytesN (N / 256 ^ (8 - k)) k++[N / 256 ^ (7 - k) % 256]:=by
  have e:8 - (k+1)=7 - k:=by omega
  have e2:8 - k=7 - k+1:=by omega
  rw [e,e2,Nat.pow_succ,←Nat.div_div_eq_div_mul]
  rfl
def RetOwn (n:Nat) (xs:List Value) (W:World) (r:Ending) (w':World):Prop:=∃ v,r = .returned v∧Below W.heap.size W w'∧w'.ownsRow W.heap.size 5 1 v n xs
theorem ownsRow_setRow {w:World} {base:Nat} {e:TypeId} {size n:Nat} {v:Value} {xs:List Value} (h:w.ownsRow base e size v n xs) {g:Nat} (hg:g<base) (cs:Array Value):(w.setRow g cs).ownsRow base e size v n xs:=by
  refine h.kept (row:=some g) ⟨rfl,rfl,rfl,by simp,fun k _ hk=>setRow_other w g k _ (fun e=>hk (by rw [e]))⟩ ?_
  cases hv:v.ownBlock with
  | none=>exact .inl rfl
  | some k=>exact .inr (by intro e;injection e with e;have:=(h.lt k hv).1;omega)
def padL (l:List Nat) (j:Nat):List Nat:=l++128::List.replicate j 0
theorem padL_len (l:List Nat) (j:Nat):(padL l j).length=l.length+1+j:=by simp [padL];omega
theorem padL_succ (l:List Nat) (j:Nat):padL l (j+1)=padL l j++[0]:=by simp [padL,List.replicate_succ']
def slLen:Value→Nat
  | .slice _ n _=>n
  | _=>0
def padZ (n:Nat):Nat:=(119 - n % 64) % 64
theorem pad_full (l:List Nat) (h:l.length*8<18446744073709551616):padL l (padZ l.length)++bytesN (l.length*8) 8=l++padN l.length:=by
  unfold padL padN padZ
  rw [Nat.mod_eq_of_lt h]
  simp
theorem ref_padded (A:Option Addr) (n c:Nat) (l:List Nat) (W:World) (hA:Rd W W.heap.size 1 A n (byts l)) (hnil:A=none→n=0∧c=0) (hn:n≤70368744177700) :
    Calls Tryz.prog 155 #[.slice A n c] W (RetOwn (l++padN l.length).length (byts (l++padN l.length)) W):=by
  obtain rfl:l.length=n:=by have:=hA.1;rw [byts_length,Nat.mul_one] at this;exact this
  have hown0:=World.ownsRow_lit (base:=W.heap.size) (e:=5) (size:=1) W #[] 0 (Nat.le_refl _) (by unfold maxLen;omega) rfl
  have hb0:=bAl (bRefl W) (.cells #[] 5)
  have hA1:=hA.below hb0
  have hone:=byts_oneCell (l:=l)
  have h63:0+l.length≤maxLen:=by unfold maxLen;omega
  have hby:(0+l.length)*1≤140737488355328:=by omega
  have hbs:=hb0.size
  have HF:=Lib.hid (pad_full l (by omega))
  obtain ⟨z,hz⟩:∃ z,Hid (z=padZ l.length):=⟨_,Lib.hid rfl⟩
  have hz64:z<64:=by rw [hz.out];exact Nat.mod_lt _ (by decide)
  have hz56:Hid ((l.length+1+z) % 64=56):=by show _=_;rw [hz.out];unfold padZ;omega
  rw [←hz.out] at HF
  go_enter Tryz.func155,Tryz.ntmps155
  go_wp2_with (at_builtin;first
    | (refine wpList_appendG (.tmp 6) (.tmp 7) 106 W.heap.size 5 (.int .u8 0) 1 1 _ 0 _ A l.length c W.heap.size (byts l) rfl rfl Tryz.underlying106 byte_info rfl (by omega) rfl hown0 rfl hA1 hnil hone h63 hby hbs ?_;intro v1 w1 hown1 hg1;have hb1:=hb0.trans (hg1.below hown0 hbs))
    | (refine wpList_append1G w1 [.int .u8 128] (.tmp 8) (.tmp 9) 106 W.heap.size 5 (.int .u8 0) 1 1 v1 (0+l.length) _ rfl rfl Tryz.underlying106 byte_info rfl (by omega) rfl hown1 rfl rfl (one_u8 _) (by unfold maxLen;omega) (by omega) hb1.size ?_;intro v2 w2 hown2 hg2;have hb2:=hb1.trans (hg2.below hown1 hb1.size)))
  have hown3:w2.ownsRow W.heap.size 5 1 v2 (l.length+1) (byts (padL l 0)):=by simpa [padL,byts] using hown2
  clear hown2 hown1 hown0 hg1 hg2 hb1 hb0 hA1 hbs hone h63 hby
  go_loopw [3] (fun v wr=>∃ j m:Nat,j≤z∧Hid (m=l.length+1+j)∧wr.ownsRow W.heap.size 5 1 v m (byts (padL l j))∧Below W.heap.size W wr) (fun v _=>18446744073709551616 - slLen v)
  case atStart=>exact ⟨0,_,Nat.zero_le _,Lib.hid rfl,hown3,hb2⟩
  case round =>
    clear hown3 hb2
    obtain ⟨j,m,hj,hm,hown,hb⟩:=hrel
    obtain ⟨A2,c2,hv,-⟩:=Sl.of_own hown
    subst hv
    have hm':=hm.out
    have hbs:=hb.size
    have hsn:=Lib.hid (padL_succ l j)
    by_cases hlt:j<z
    · have ht:((m:Int) % 64 != 56)=true:=by rw [bne_iff_ne];have:=hz56.out;omega
      have hm2:Hid (m+1=l.length+1+(j+1)):=by show _=_;omega
      have hmm:m≤70368744177800:=by omega
      have h63:m+1≤maxLen:=by unfold maxLen;omega
      have hby:(m+1)*1≤140737488355328:=by omega
      clear hm'
      go_wp2_with (at_builtin;refine wpList_append1G wr [.int .u8 0] (.tmp 15) (.tmp 16) 106 W.heap.size 5 (.int .u8 0) 1 1 _ m _ rfl rfl Tryz.underlying106 byte_info rfl (by omega) rfl hown rfl rfl (one_u8 _) h63 hby hbs ?_;intro v2 w2 hown2 hg2)
      obtain ⟨g',cap',rfl⟩:=ownsRow_succ hown2
      go_roundw
      case rel=>exact ⟨j+1,m+1,by omega,hm2,by rw [hsn.out];exact own_byte hown2 rfl,hb.trans (hg2.below hown hbs)⟩
      case measure=>simp [slLen];omega
    · have hjz:j=z:=by omega
      have ht:((m:Int) % 64 != 56)=false:=by rw [bne_eq_false_iff_eq];have:=hz56.out;omega
      have hmm:m≤70368744177800:=by omega
      have hzj:=Lib.hid hjz
      rw [hjz] at hown
      clear hjz hm' hlt hsn hj
      go_wp2_with fail
      obtain ⟨N,hN⟩:∃ N,Hid (N=l.length*8):=⟨_,Lib.hid rfl⟩
      have hNI:Hid (((l.length:Nat):Int)*8=(N:Int)):=by show _=_;rw [hN.out];omega
      rw [hNI.out]
      go_loopw [3,5] (fun v i wr=>∃ (k:Nat) (y:Int),Hid (y=7 - k) ∧ -1≤y∧y≤7∧i = .int .i64 y∧wr.ownsRow W.heap.size 5 1 v (m+k) (byts (padL l z++bytesN (N / 256 ^ (8 - k)) k))∧Below W.heap.size W wr) (fun _ i _=>(intOf i+1).toNat)
      case atStart=>exact ⟨0,7,Lib.hid rfl,by omega,by omega,rfl,by simpa [bytesN] using hown,hb⟩
      case round =>
        clear hown hb hbs ht
        obtain ⟨k,y,hy,hy0,hy7,rfl,hown,hb⟩:=hrel
        have hbs:=hb.size
        have h63:m+k+1≤maxLen:=by have:=hy.out;unfold maxLen;omega
        have hby:(m+k+1)*1≤140737488355328:=by have:=hy.out;omega
        have hstep:=Lib.hid (bytesN_next N k)
        obtain ⟨A3,c3,hv3,-⟩:=Sl.of_own hown
        have h9:y=7∨y=6∨y=5∨y=4∨y=3∨y=2∨y=1∨y=0∨y = -1:=by omega
        rcases h9 with rfl | rfl | rfl | rfl | rfl | rfl | rfl | rfl | rfl
        · obtain rfl:k=0:=by have:=hy.out;omega
          have hst:=Lib.hid (hstep.out (by omega))
          have hp:(256:Nat) ^ (7 - 0)=72057594037927936:=by decide
          clear hy hstep
          go_wp2_with (at_builtin;refine wpList_append1G wr [.int .u8 _] (.tmp 26) (.tmp 32) 106 W.heap.size 5 (.int .u8 0) 1 1 _ (m+0) _ rfl rfl Tryz.underlying106 byte_info rfl (by omega) rfl hown rfl rfl (one_u8 _) h63 hby hbs ?_;intro v2 w2 hown2 hg2)
          go_roundw
          case rel=>exact ⟨0+1,6,Lib.hid (by omega),by omega,by omega,rfl,by rw [hst.out,←List.append_assoc,←Nat.add_assoc];exact own_byte hown2 (by rw [hp];omega),hb.trans (hg2.below hown hbs)⟩
          case measure=>simp [intOf]
        · obtain rfl:k=1:=by have:=hy.out;omega
          have hst:=Lib.hid (hstep.out (by omega))
          have hp:(256:Nat) ^ (7 - 1)=281474976710656:=by decide
          clear hy hstep
          go_wp2_with (at_builtin;refine wpList_append1G wr [.int .u8 _] (.tmp 26) (.tmp 32) 106 W.heap.size 5 (.int .u8 0) 1 1 _ (m+1) _ rfl rfl Tryz.underlying106 byte_info rfl (by omega) rfl hown rfl rfl (one_u8 _) h63 hby hbs ?_;intro v2 w2 hown2 hg2)
          go_roundw
          case rel=>exact ⟨1+1,5,Lib.hid (by omega),by omega,by omega,rfl,by rw [hst.out,←List.append_assoc,←Nat.add_assoc];exact own_byte hown2 (by rw [hp];omega),hb.trans (hg2.below hown hbs)⟩
          case measure=>simp [intOf]
        · obtain rfl:k=2:=by have:=hy.out;omega
          have hst:=Lib.hid (hstep.out (by omega))
          have hp:(256:Nat) ^ (7 - 2)=1099511627776:=by decide
          clear hy hstep
          go_wp2_with (at_builtin;refine wpList_append1G wr [.int .u8 _] (.tmp 26) (.tmp 32) 106 W.heap.size 5 (.int .u8 0) 1 1 _ (m+2) _ rfl rfl Tryz.underlying106 byte_info rfl (by omega) rfl hown rfl rfl (one_u8 _) h63 hby hbs ?_;intro v2 w2 hown2 hg2)
          go_roundw
          case rel=>exact ⟨2+1,4,Lib.hid (by omega),by omega,by omega,rfl,by rw [hst.out,←List.append_assoc,←Nat.add_assoc];exact own_byte hown2 (by rw [hp];omega),hb.trans (hg2.below hown hbs)⟩
          case measure=>simp [intOf]
        · obtain rfl:k=3:=by have:=hy.out;omega
          have hst:=Lib.hid (hstep.out (by omega))
          have hp:(256:Nat) ^ (7 - 3)=4294967296:=by decide
          clear hy hstep
          go_wp2_with (at_builtin;refine wpList_append1G wr [.int .u8 _] (.tmp 26) (.tmp 32) 106 W.heap.size 5 (.int .u8 0) 1 1 _ (m+3) _ rfl rfl Tryz.underlying106 byte_info rfl (by omega) rfl hown rfl rfl (one_u8 _) h63 hby hbs ?_;intro v2 w2 hown2 hg2)
          go_roundw
          case rel=>exact ⟨3+1,3,Lib.hid (by omega),by omega,by omega,rfl,by rw [hst.out,←List.append_assoc,←Nat.add_assoc];exact own_byte hown2 (by rw [hp];omega),hb.trans (hg2.below hown hbs)⟩
          case measure=>simp [intOf]
        · obtain rfl:k=4:=by have:=hy.out;omega
          have hst:=Lib.hid (hstep.out (by omega))
          have hp:(256:Nat) ^ (7 - 4)=16777216:=by decide
          clear hy hstep
          go_wp2_with (at_builtin;refine wpList_append1G wr [.int .u8 _] (.tmp 26) (.tmp 32) 106 W.heap.size 5 (.int .u8 0) 1 1 _ (m+4) _ rfl rfl Tryz.underlying106 byte_info rfl (by omega) rfl hown rfl rfl (one_u8 _) h63 hby hbs ?_;intro v2 w2 hown2 hg2)
          go_roundw
          case rel=>exact ⟨4+1,2,Lib.hid (by omega),by omega,by omega,rfl,by rw [hst.out,←List.append_assoc,←Nat.add_assoc];exact own_byte hown2 (by rw [hp];omega),hb.trans (hg2.below hown hbs)⟩
          case measure=>simp [intOf]
        · obtain rfl:k=5:=by have:=hy.out;omega
          have hst:=Lib.hid (hstep.out (by omega))
          have hp:(256:Nat) ^ (7 - 5)=65536:=by decide
          clear hy hstep
          go_wp2_with (at_builtin;refine wpList_append1G wr [.int .u8 _] (.tmp 26) (.tmp 32) 106 W.heap.size 5 (.int .u8 0) 1 1 _ (m+5) _ rfl rfl Tryz.underlying106 byte_info rfl (by omega) rfl hown rfl rfl (one_u8 _) h63 hby hbs ?_;intro v2 w2 hown2 hg2)
          go_roundw
          case rel=>exact ⟨5+1,1,Lib.hid (by omega),by omega,by omega,rfl,by rw [hst.out,←List.append_assoc,←Nat.add_assoc];exact own_byte hown2 (by rw [hp];omega),hb.trans (hg2.below hown hbs)⟩
          case measure=>simp [intOf]
        · obtain rfl:k=6:=by have:=hy.out;omega
          have hst:=Lib.hid (hstep.out (by omega))
          have hp:(256:Nat) ^ (7 - 6)=256:=by decide
          clear hy hstep
          go_wp2_with (at_builtin;refine wpList_append1G wr [.int .u8 _] (.tmp 26) (.tmp 32) 106 W.heap.size 5 (.int .u8 0) 1 1 _ (m+6) _ rfl rfl Tryz.underlying106 byte_info rfl (by omega) rfl hown rfl rfl (one_u8 _) h63 hby hbs ?_;intro v2 w2 hown2 hg2)
          go_roundw
          case rel=>exact ⟨6+1,0,Lib.hid (by omega),by omega,by omega,rfl,by rw [hst.out,←List.append_assoc,←Nat.add_assoc];exact own_byte hown2 (by rw [hp];omega),hb.trans (hg2.below hown hbs)⟩
          case measure=>simp [intOf]
        · obtain rfl:k=7:=by have:=hy.out;omega
          have hst:=Lib.hid (hstep.out (by omega))
          have hp:(256:Nat) ^ (7 - 7)=1:=by decide
          clear hy hstep
          go_wp2_with (at_builtin;refine wpList_append1G wr [.int .u8 _] (.tmp 26) (.tmp 32) 106 W.heap.size 5 (.int .u8 0) 1 1 _ (m+7) _ rfl rfl Tryz.underlying106 byte_info rfl (by omega) rfl hown rfl rfl (one_u8 _) h63 hby hbs ?_;intro v2 w2 hown2 hg2)
          go_roundw
          case rel=>exact ⟨7+1,-1,Lib.hid (by omega),by omega,by omega,rfl,by rw [hst.out,←List.append_assoc,←Nat.add_assoc];exact own_byte hown2 (by rw [hp];omega),hb.trans (hg2.below hown hbs)⟩
          case measure=>simp [intOf]
        · obtain rfl:k=8:=by have:=hy.out;omega
          go_wp2_with fail
          go_ret
          refine ⟨_,rfl,hb,?_⟩
          have e:padL l z++bytesN (N / 256 ^ (8 - 8)) 8=l++padN l.length:=by
            have h:=HF.out
            rw [←hN.out] at h
            rw [Nat.sub_self,Nat.pow_zero,Nat.div_one]
            exact h
          rw [e] at hown
          have e2:(l++padN l.length).length=m+8:=by rw [←HF.out,List.length_append,padL_len,bytesN_len,hm.out,hzj.out]
          rw [e2]
          exact hown
theorem pad_blocks (l:List Nat):(l++padN l.length).length=64 * ((l.length+72) / 64):=by
  rw [List.length_append,padN_len];omega
theorem flatN_at:∀ (l:List Nat) (i j x:Nat),l[i]?=some x→j<4→(l.flatMap fun v=>bytesN v 4)[4*i+j]?=(bytesN x 4)[j]?
  | [],i,j,x,h,_=>by simp at h
  | y::l,0,j,x,h,hj=>by
    simp only [List.getElem?_cons_zero,Option.some.injEq] at h
    subst h
    rw [List.flatMap_cons,Nat.mul_zero,Nat.zero_add,List.getElem?_append_left (by rw [bytesN_len];exact hj)]
  | y::l,i+1,j,x,h,hj=>by
    simp only [List.getElem?_cons_succ] at h
    rw [List.flatMap_cons,List.getElem?_append_right (by rw [bytesN_len];omega),bytesN_len]
    have:4 * (i+1)+j - 4=4*i+j:=by omega
    rw [this]
    exact flatN_at l i j x h hj
theorem bytes4 (x:Nat):bytesN x 4=[x / 16777216 % 256,x / 65536 % 256,x / 256 % 256,x % 256]:=by
  show [x / 256 / 256 / 256 % 256,x / 256 / 256 % 256,x / 256 % 256,x % 256]=_
  simp only [Nat.div_div_eq_div_mul]
theorem set_byte {X:List Nat} {k y:Nat} {Y:Int} (h:X[k]?=some y) (hk:k<32) (hY:Y=(y:Nat)) :
    (byts (X.take k++zerosN (32 - k))).toArray.setIfInBounds k (.int .u8 Y)=(byts (X.take (k+1)++zerosN (32 - (k+1)))).toArray:=by
  subst hY
  obtain ⟨hl,rfl⟩:=List.getElem?_eq_some_iff.1 h
  rw [List.setIfInBounds_toArray]
  congr 1
  have e:32 - k=(32 - (k+1))+1:=by omega
  have hlen:(X.take k).length=k:=by rw [List.length_take];omega
  rw [List.take_succ_eq_append_getElem hl,e]
  unfold byts zerosN
  rw [List.replicate_succ,List.map_append,List.map_append,List.map_append,List.set_append_right _ _ (by rw [List.length_map,hlen];exact Nat.le_refl _),List.length_map,hlen,Nat.sub_self]
  simp
theorem Blk.setByte {w:World} {g k y:Nat} {t:TypeId} {X:List Nat} {Y:Int} (h:Blk w g t (byts (X.take k++zerosN (32 - k))).toArray) (hy:X[k]?=some y) (hk:k<32) (hY:Y=(y:Nat)) :
    Blk (w.setCell ⟨g,k,none⟩ (.int .u8 Y)) g t (byts (X.take (k+1)++zerosN (32 - (k+1)))).toArray:=by
  rw [←set_byte hy hk hY]
  exact h.set_ k _
theorem ref_sum (A:Option Addr) (n c:Nat) (l:List Nat) (W:World) (hA:Rd W W.heap.size 1 A n (byts l)) (hnil:A=none→n=0∧c=0) (ho:okB l) (hn:n≤70368744177700) :
    Calls Tryz.prog 129 #[.slice A n c] W (Ret (dig (shaN l)) W):=by
  obtain rfl:l.length=n:=by have:=hA.1;rw [byts_length,Nat.mul_one] at this;exact this
  have hPB:=Lib.hid (pad_blocks l)
  have HS:Hid (shaN l=(blocksS shaS (l++padN l.length) ((l.length+72) / 64)).list.flatMap fun v=>bytesN v 4):=Lib.hid rfl
  obtain ⟨M,hM⟩:∃ M,Hid (M=(l.length+72) / 64):=⟨_,Lib.hid rfl⟩
  rw [←hM.out] at HS hPB
  have hMl:M≤70368744177800:=by rw [hM.out];omega
  have q1:=fun w (h:Below W.heap.size W w)=>ref_padded A l.length c l w ((hA.below h).more h.size) hnil hn
  have hoP:okB (l++padN l.length):=okB_app ho (okB_pad _)
  generalize l++padN l.length=P at *
  obtain ⟨n2,hn2⟩:∃ n2,Hid (n2=P.length):=⟨_,Lib.hid rfl⟩
  rw [←hn2.out] at hPB q1
  generalize shaN l=X at *
  go_enter Tryz.func129,Tryz.ntmps129
  go_upto_region 2 with fail
  change Code.wp _ _ _ _ ((W.alloc (.cells (byts (zerosN 32)).toArray 43)).alloc (.cells (u32s shaS.list).toArray 201))
  have BD:=(Blk.new W 43 (byts (zerosN 32)).toArray _ rfl).alloc (.cells (u32s shaS.list).toArray 201)
  have BS:=Blk.new (W.alloc (.cells (byts (zerosN 32)).toArray 43)) 201 (u32s shaS.list).toArray (W.heap.size+1) (by simp)
  have hb:=bAl (bAl (bRefl W) (.cells (byts (zerosN 32)).toArray 43)) (.cells (u32s shaS.list).toArray 201)
  generalize (W.alloc (.cells (byts (zerosN 32)).toArray 43)).alloc (.cells (u32s shaS.list).toArray 201)=w1 at *
  have q2:=q1 w1 hb
  go_wp2_with fail
  (with_reducible refine q2.mono ?_)
  rintro e w2 ⟨v2,rfl,b2,hown⟩
  obtain ⟨A2,c2,hv2,-⟩:=Sl.of_own hown
  subst hv2
  have hw1:W.heap.size+1<w1.heap.size:=BS.lt
  have hb2:=bCall hb b2
  have BD2:=BD.below b2 BD.lt
  have BS2:=BS.below b2 BS.lt
  clear q1 q2 hb BD BS b2
  go_wp2_with fail
  go_loopw [5] (fun i wr=>∃ j q:Nat,j≤M∧Hid (q=64*j)∧q≤n2∧i = .int .i64 q∧Below W.heap.size W wr∧wr.ownsRow w1.heap.size 5 1 (.slice A2 n2 c2) n2 (byts P)∧Blk wr W.heap.size 43 (byts (zerosN 32)).toArray∧Blk wr (W.heap.size+1) 201 (u32s (blocksS shaS P j).list).toArray) (fun i _=>n2 - (intOf i).toNat)
  case atStart=>exact ⟨0,0,Nat.zero_le _,Lib.hid rfl,Nat.zero_le _,rfl,hb2,hown,BD2,BS2⟩
  case round =>
    clear hb2 BD2 BS2 hown
    obtain ⟨j,q,hj,hq,hqn,rfl,hb,hown,BD,BS⟩:=hrel
    obtain ⟨_,_,hv2,hR,hc2,hc3,_⟩:=Sl.of_own hown
    injection hv2 with e1 _ e3
    subst e1;subst e3
    by_cases hlt:q<n2
    · have hq64:q+64≤n2:=by have:=hPB.out;have:=hq.out;omega
      have hqc:q<c2:=by omega
      have hjM:j<M:=by have:=hPB.out;have:=hq.out;omega
      obtain ⟨b,off,rfl,hbb,hcc⟩:=hR.2 (by omega)
      have sok:(blocksS shaS P j).ok:=blocksS_ok shaS_ok j
      have hnx:Hid (blocksS shaS P (j+1)=blockS (blocksS shaS P j) ((P.drop q).take 64)):=by show _=_;rw [hq.out];rfl
      have hR2:Rd wr wr.heap.size 1 (some ⟨b,off+q,none⟩) 64 (byts ((P.drop q).take 64)):=by
        refine ⟨by rw [byts_length,List.length_take,List.length_drop,←hn2.out];omega,fun _=>⟨b,off+q,rfl,hbb,fun i u hu=>?_⟩⟩
        have hi:i<64:=by
          have:=(List.getElem?_eq_some_iff.1 hu).1
          rw [byts_length,List.length_take] at this;omega
        rw [Nat.add_assoc]
        refine hcc _ _ ?_
        unfold byts at hu ⊢
        rw [List.getElem?_map] at hu ⊢
        rw [List.getElem?_take,if_pos hi,List.getElem?_drop] at hu
        exact hu
      have hoB:okB ((P.drop q).take 64):=okB_take (okB_drop hoP q) 64
      generalize (P.drop q).take 64=Bl at *
      generalize blocksS shaS P j=s at *
      obtain ⟨s2,hs2⟩:∃ s2,Hid (s2=blockS s Bl):=⟨_,Lib.hid rfl⟩
      obtain ⟨q0,q1,q2,q3,q4,q5,q6,q7⟩:=st_cells BS
      have KS:Hid (∀ w',Below wr.heap.size wr w'→_):=Lib.hid (fun w' h=>st_cells (BS.below h BS.lt))
      have qb:=ref_block s b (off+q) (c2 - q) Bl wr.drew sok hR2 hoB (by omega) (by omega)
      rw [←hs2.out] at qb
      have fw:IntKind.i64.wrap ((q:Int)+64)=(q:Int)+64:=by rw [IntKind.wrap_i64];omega
      have ft:((q:Int)+64).toNat=q+64:=by omega
      have f1:(q:Int)+64≤(c2:Int):=by omega
      have f0:(0:Int)≤(q:Int)+64:=by omega
      have fq:¬(c2=q):=by omega
      have fs:q+64 - q=64:=by omega
      have fl:q≤q+64:=by omega
      go_upto_region 6 with fail
      refine wp_region_schB (f:=7) KS [(0,2),(1,1),(2,1),(3,1),(4,1),(5,1),(6,0),(7,3)] ?_
      simp only [pickS,List.getElem?_cons_zero,List.getElem?_cons_succ]
      refine wpSched_r ?_
      refine wpSched_t ?_
      refine wpSched_t ?_
      refine wpSched_t ?_
      refine wpSched_t ?_
      refine wpSched_t ?_
      refine wpSched_force (fun K hK=>?_)
      go_simp;(first | (go_at_call 156;(with_reducible refine qb.mono ?_);rintro e w9 ⟨rfl,b9⟩;have B7:Below wr.heap.size wr w9:=bCall (bDr (bRefl _)) b9) | skip)
      refine shut_go hK KS ?_
      clear hK K
      refine wpSched_last ?_
      first | simp only [List.map_nil] | simp only [List.map_cons,List.map_nil]
      have BD9:=BD.below B7 BD.lt
      have BS9:=BS.below B7 BS.lt
      have hb9:=bCall hb B7
      have hown9:=ownsRow_setRow (ownsRow_keep hown B7) hw1 (u32s s2.list).toArray
      clear KS q0 q1 q2 q3 q4 q5 q6 q7 BD BS hb B7 qb hR2 hown hR
      have hX1:=u32s_one s2.list
      refine wpList_storeG (v := .agg (u32s s2.list).toArray) (by rfl) (by rfl) (by rfl) (by rfl) (store_whole BS9 (by exact (by kernel_rfl:(Tryz.prog.info? 201).map (·.size)=some 8)) (by rw [List.size_toArray,List.size_toArray,u32s_length,u32s_length];rfl) hX1) ?_
      simp only [Act.put]
      have BR:=BS9.row (u32s s2.list).toArray
      have BD2:=BD9.farRow (show W.heap.size≠W.heap.size+1 by omega) (u32s s2.list).toArray
      have hbS:=below_setRow hb9 (show W.heap.size≤W.heap.size+1 by omega) (u32s s2.list).toArray
      generalize w9.setRow (W.heap.size+1) (u32s s2.list).toArray=w5 at *
      go_wp2_with fail
      refine NoPanic.normal ?_
      go_wp2_with fail
      exact ⟨⟨j+1,q+64,by omega,Lib.hid (by have:=hq.out;omega),hq64,by go_num,hbS,hown9,BD2,by rw [hnx.out,←hs2.out];exact BR⟩,by simp [intOf];omega⟩
    · have hj2:j=M:=by have:=hPB.out;have:=hq.out;omega
      rw [hj2] at BS
      have sok:(blocksS shaS P M).ok:=blocksS_ok shaS_ok M
      clear hj2 hj hq hqn hown hR
      generalize blocksS shaS P M=s at *
      have HX:=HS.out
      have hXl:Hid (X.length=32):=by show _=_;rw [HX,flat4_len];rfl
      have hXo:okB X:=by rw [HX];intro y hy;obtain ⟨v,_,hv⟩:=List.mem_flatMap.1 hy;exact bytesN_lt v 4 y hv
      have hsl:s.list.length=8:=rfl
      have hslt:∀ x∈s.list,x<4294967296:=by
        obtain ⟨o0,o1,o2,o3,o4,o5,o6,o7⟩:=sok
        intro x hx
        simp only [S8.list,List.mem_cons,List.not_mem_nil,or_false] at hx
        rcases hx with rfl | rfl | rfl | rfl | rfl | rfl | rfl | rfl <;> assumption
      have HX2:=Lib.hid HX
      have Hsl:=Lib.hid hsl
      clear HX HS hsl
      go_upto_region 7 with fail
      apply wp_region_lit
      iterate 6 go_step
      refine wpList_storeG (v := .agg (byts (zerosN 32)).toArray) (by rfl) (by rfl) (by rfl) (by rfl) (store_newW (by exact dig_info) (by rfl) (byts_oneCell (l:=zerosN 32))) ?_
      simp only [Act.put]
      have BX:=Blk.new wr 43 (byts (zerosN 32)).toArray _ rfl
      have BD1:=BD.alloc (.cells (byts (zerosN 32)).toArray 43)
      have BS1:=BS.alloc (.cells (byts (zerosN 32)).toArray 43)
      have hb1:=bAl hb (.cells (byts (zerosN 32)).toArray 43)
      have hg1:W.heap.size+1<wr.heap.size:=BS.lt
      clear BD BS hb
      generalize wr.alloc (.cells (byts (zerosN 32)).toArray 43)=w5 at *
      generalize wr.heap.size=g at *
      go_wp2_with fail
      go_loopw [7] (fun i wr=>∃ k:Nat,k≤32∧i = .int .i64 k∧Below W.heap.size W wr∧Blk wr W.heap.size 43 (byts (zerosN 32)).toArray∧Blk wr (W.heap.size+1) 201 (u32s s.list).toArray∧Blk wr g 43 (byts (X.take k++zerosN (32 - k))).toArray) (fun i _=>32 - (intOf i).toNat)
      case atStart=>exact ⟨0,Nat.zero_le _,rfl,hb1,BD1,BS1,BX⟩
      case round =>
        clear hb1 BD1 BS1 BX hlt
        obtain ⟨k,hk,rfl,hb,BD,BS,BX⟩:=hrel
        by_cases hlt:k<32
        · obtain ⟨Q,R,hQ,hR4,hQ8⟩:∃ Q R,k=4*Q+R∧R<4∧Q<8:=⟨k / 4,k % 4,by omega,by omega,by omega⟩
          obtain ⟨x,hx⟩:∃ x,Hid (s.list[Q]?=some x):=⟨_,Lib.hid (List.getElem?_eq_getElem (by rw [Hsl.out];exact hQ8))⟩
          have hx4:=hslt x (List.mem_of_getElem? hx.out)
          have hxk:Hid (X[k]?=(bytesN x 4)[R]?):=by show _=_;rw [HX2.out,hQ];exact flatN_at _ _ _ _ hx.out hR4
          have c0:wr.cell? ⟨W.heap.size+1,Q,none⟩=some (.int .u32 x):=by rw [BS.cell];simpa using u32s_at hx.out
          have z0:=BX.frozen k
          obtain ⟨y0,hy0⟩:∃ y,wr.cell? ⟨g,k,none⟩=some y:=⟨_,(BX.cell k).trans (Array.getElem?_eq_getElem (by rw [List.size_toArray,byts_length,List.length_append,List.length_take,zerosN_len,hXl.out];omega))⟩
          have e1:(k:Int) / 4=(Q:Int):=by omega
          have e2:(Q:Int)<8:=by omega
          have e3:(k:Int)<32:=by omega
          have hr4:R=0∨R=1∨R=2∨R=3:=by omega
          rw [bytes4] at hxk
          rcases hr4 with rfl | rfl | rfl | rfl
          · have e4:(k:Int) % 4=0:=by omega
            have hy:X[k]?=some (x / 16777216 % 256):=hxk.out
            have HY:=Lib.hid hy
            clear hQ hxk hy
            go_wp2_with fail
            refine ⟨⟨k+1,by omega,by go_num,bSet hb (by show W.heap.size≤g;omega) _,BD.far (by show W.heap.size≠g;omega) _,BS.far (by show W.heap.size+1≠g;omega) _,?_⟩,by simp [intOf];omega⟩
            exact BX.setByte HY.out hlt (by omega)
          · have e4:(k:Int) % 4=1:=by omega
            have hy:X[k]?=some (x / 65536 % 256):=hxk.out
            have HY:=Lib.hid hy
            clear hQ hxk hy
            go_wp2_with fail
            refine ⟨⟨k+1,by omega,by go_num,bSet hb (by show W.heap.size≤g;omega) _,BD.far (by show W.heap.size≠g;omega) _,BS.far (by show W.heap.size+1≠g;omega) _,?_⟩,by simp [intOf];omega⟩
            exact BX.setByte HY.out hlt (by omega)
          · have e4:(k:Int) % 4=2:=by omega
            have hy:X[k]?=some (x / 256 % 256):=hxk.out
            have HY:=Lib.hid hy
            clear hQ hxk hy
            go_wp2_with fail
            refine ⟨⟨k+1,by omega,by go_num,bSet hb (by show W.heap.size≤g;omega) _,BD.far (by show W.heap.size≠g;omega) _,BS.far (by show W.heap.size+1≠g;omega) _,?_⟩,by simp [intOf];omega⟩
            exact BX.setByte HY.out hlt (by omega)
          · have e4:(k:Int) % 4=3:=by omega
            have hy:X[k]?=some (x % 256):=hxk.out
            have HY:=Lib.hid hy
            clear hQ hxk hy
            go_wp2_with fail
            refine ⟨⟨k+1,by omega,by go_num,bSet hb (by show W.heap.size≤g;omega) _,BD.far (by show W.heap.size≠g;omega) _,BS.far (by show W.heap.size+1≠g;omega) _,?_⟩,by simp [intOf];omega⟩
            exact BX.setByte HY.out hlt (by omega)
        · have hk32:k=32:=by omega
          have BX2:Blk wr g 43 (byts X).toArray:=by
            rw [hk32,List.take_of_length_le (by rw [hXl.out];exact Nat.le_refl _)] at BX
            simpa [zerosN] using BX
          have hXs:(byts X).toArray.size=32:=by rw [List.size_toArray,byts_length,hXl.out]
          clear hk32 BX
          go_upto_region 12 with fail
          apply wp_region_lit
          refine wpList_load_row rfl 43 (.tmp 6) rfl g rfl 43 (byts X).toArray (0,0) _ BX2 dig_under rfl (by rw [hXs];exact dig_info) ?_
          refine wpList_store_row rfl 43 (.tmp 2) (.tmp 41) rfl W.heap.size (byts X).toArray rfl rfl 43 _ BD (by rw [hXs];exact dig_info) (by rw [hXs];rfl) (byts_one _) ?_
          have hb9:=below_setRow hb (Nat.le_refl _) (byts X).toArray
          have BD9:Blk (wr.setRow W.heap.size (byts X).toArray) W.heap.size 43 (byts X).toArray:=setRow_heap wr W.heap.size _ _ 43 _ BD
          go_wp2_with fail
          exact bodyPost_ret (v := .agg (byts X).toArray) (results_cell_row rfl _ _ W.heap.size 43 _ (0,0) _ rfl BD9 dig_under rfl (by rw [hXs];exact dig_info)) rfl ⟨rfl,hb9⟩
theorem Sl.of_byts {w:World} {g:Nat} {t:TypeId} {l:List Nat} (h:Blk w g t (byts l).toArray):Rd w w.heap.size 1 (some ⟨g,0,none⟩) l.length (byts l) :=
  ⟨by rw [byts_length,Nat.mul_one],fun _=>⟨g,0,rfl,h.lt,fun j u hu=>by rw [Nat.zero_add,h.cell];simpa using hu⟩⟩
theorem ref_tagged (s:ByteArray) (A:Option Addr) (n c:Nat) (l:List Nat) (W:World) (hA:Rd W W.heap.size 1 A n (byts l)) (hnil:A=none→n=0∧c=0) (ho:okB l) (hs:s.size≤1000000) (hn:n≤70368744177600) :
    Calls Tryz.prog 91 #[.string s,.slice A n c] W (Ret (dig (taggedN (sb s) l)) W):=by
  obtain rfl:l.length=n:=by have:=hA.1;rw [byts_length,Nat.mul_one] at this;exact this
  go_enter Tryz.func91,Tryz.ntmps91
  have hcv:=fun (w:World)=>Lib.run_convert_string_bytes (P:=Tryz.prog) w 9 106 5 s Tryz.underlying9 Tryz.underlying106 Tryz.underlying5
  go_upto_region 1 with fail
  change Code.wp _ _ _ _ (W.alloc (.cells (byts (zerosN 32)).toArray 43))
  have BD:=Blk.new W 43 (byts (zerosN 32)).toArray _ rfl
  have hb:=bAl (bRefl W) (.cells (byts (zerosN 32)).toArray 43)
  generalize W.alloc (.cells (byts (zerosN 32)).toArray 43)=w1 at *
  go_wp2_with fail
  refine (ref_sum _ _ _ (sb s) _ (by exact rd_bytes w1 _ s _ rfl) (by intro h;cases h) (sb_ok s) (by omega)).mono ?_
  rintro e w2 ⟨rfl,b2⟩
  have hbB:=bCall hb (below_bytes w1 5 s)
  have hb2:=bCall hbB b2
  have BD2:Blk w2 W.heap.size 43 (byts (zerosN 32)).toArray:=(BD.below (below_bytes w1 5 s) BD.lt).below b2 (by rw [Lib.bytesWorld_size];have:=BD.lt;omega)
  clear b2 hbB BD hb hcv
  unfold dig
  have st1:=store_dig (shaN (sb s)) (shaN_len _)
  have ln1:(byts (shaN (sb s))).length=32:=by rw [byts_length,shaN_len]
  go_upto_region 2 with fail
  have BT:=Blk.new w2 43 (byts (shaN (sb s))).toArray _ rfl
  have hb3:=bAl hb2 (.cells (byts (shaN (sb s))).toArray 43)
  have BD3:=BD2.alloc (.cells (byts (shaN (sb s))).toArray 43)
  have hlt:W.heap.size<w2.heap.size:=BD2.lt
  clear hb2 BD2 st1 ln1
  generalize w2.alloc (.cells (byts (shaN (sb s))).toArray 43)=w3 at *
  generalize w2.heap.size=bt at *
  have hTs:=shaN_len (sb s)
  have hTo:=okB_sha (sb s)
  have hT:Hid (taggedN (sb s) l=shaN (shaN (sb s)++l)):=Lib.hid rfl
  generalize shaN (sb s)=T at *
  have HTs:=Lib.hid hTs
  have hown0:=World.ownsRow_lit (base:=W.heap.size+1) (e:=5) (size:=1) w3 #[] 0 (Nat.le_trans hlt (Nat.le_of_lt BT.lt)) (by unfold maxLen;omega) rfl
  have hb4:=bAl hb3 (.cells #[] 5)
  have BD4:=BD3.alloc (.cells #[] 5)
  have hR4:Rd (w3.alloc (.cells #[] 5)) (w3.alloc (.cells #[] 5)).heap.size 1 (some ⟨bt,0,none⟩) 32 (byts T):=by have:=Sl.of_byts (BT.alloc (.cells #[] 5));rwa [hTs] at this
  have hone:=byts_oneCell (l:=T)
  have hone2:=byts_oneCell (l:=l)
  have hs4:W.heap.size+1≤(w3.alloc (.cells #[] 5)).heap.size:=BD4.lt
  clear hTs hb3 BD3 BT
  go_wp2_with (at_builtin;first
    | (refine wpList_appendG (.tmp 9) (.tmp 10) 106 (W.heap.size+1) 5 (.int .u8 0) 1 1 _ 0 _ (some ⟨bt,0,none⟩) 32 32 (w3.alloc (.cells #[] 5)).heap.size (byts T) rfl rfl Tryz.underlying106 byte_info rfl (by omega) rfl hown0 rfl hR4 (by intro h;cases h) hone (by unfold maxLen;omega) (by omega) hs4 ?_;intro v5 w5 hown5 hg5;have b5:=hg5.below hown0 hs4;have hb5:=hb4.trans (b5.mono (by omega));have BD5:=BD4.below b5 (by omega);have hA5:=hA.below hb5;have hs5:W.heap.size+1≤w5.heap.size:=Nat.le_trans hs4 hg5.size)
    | (refine wpList_appendG (.tmp 11) (.tmp 12) 106 (W.heap.size+1) 5 (.int .u8 0) 1 1 v5 (0+32) _ A l.length c W.heap.size (byts l) rfl rfl Tryz.underlying106 byte_info rfl (by omega) rfl hown5 rfl hA5 hnil hone2 (by unfold maxLen;omega) (by omega) hs5 ?_;intro v6 w6 hown6 hg6;have b6:=hg6.below hown5 hs5;have hb6:=hb5.trans (b6.mono (by omega));have BD6:=BD5.below b6 (by omega);obtain ⟨A6,c6,hv6,hR6,hc6,hc62,hn6⟩:=Sl.of_own hown6;subst hv6))
  obtain ⟨X,hX⟩:∃ X,Hid (X=T++l):=⟨_,Lib.hid rfl⟩
  have hXl:Hid (X.length=0+32+l.length):=by show _=_;rw [hX.out,List.length_append,HTs.out]
  have hR7:Rd w6 w6.heap.size 1 A6 (0+32+l.length) (byts X):=by
    have e:byts X=[]++byts T++byts l:=by rw [hX.out];simp [byts]
    rw [e];exact hR6
  have q:=ref_sum A6 _ c6 X w6 hR7 hn6 (by rw [hX.out];exact okB_app hTo ho) (by omega)
  rw [←hX.out] at hT
  clear hR6 hR7 hown6 hown5 hown0 hg6 hg5 BD5 BD4 b5 b6 hb5 hb4 hA5 hs5 hs4 hn6 hR4
  (with_reducible refine q.mono ?_)
  rintro e w7 ⟨rfl,b7⟩
  have hb7:=bCall hb6 b7
  have BD7:=BD6.below b7 BD6.lt
  clear q
  dsimp only
  (refine ‹∀ (a:Act) (w:World),wpList _ _ _ _ a w→_› _ _ ?_)
  refine wpList_store_row rfl 43 (.tmp 4) (.tmp 14) rfl W.heap.size (byts (shaN X)).toArray rfl rfl 43 _ BD7 (by rw [List.size_toArray,byts_length,shaN_len];exact dig_info) (by rw [List.size_toArray,List.size_toArray,byts_length,byts_length,shaN_len];rfl) (byts_one _) ?_
  have hb9:=below_setRow hb7 (Nat.le_refl _) (byts (shaN X)).toArray
  have BD9:Blk (w7.setRow W.heap.size (byts (shaN X)).toArray) W.heap.size 43 (byts (shaN X)).toArray:=setRow_heap w7 W.heap.size _ _ 43 _ BD7
  go_wp2_with fail
  exact bodyPost_ret (v:=dig (shaN X)) (results_cell_row rfl _ _ W.heap.size 43 _ (0,0) _ rfl BD9 dig_under rfl (by rw [List.size_toArray,byts_length,shaN_len];exact dig_info)) rfl ⟨by unfold dig;rw [hT.out],hb9⟩
theorem ref_hash (s:ByteArray) (A:Option Addr) (n c:Nat) (l:List Nat) (W:World) (hA:Rd W W.heap.size 1 A n (byts l)) (hnil:A=none→n=0∧c=0) (ho:okB l) (hs:s.size≤1000000) (hn:n≤70368744177600) :
    Calls Tryz.prog 126 #[.string s,.slice A n c] W (Ret (.int .i64 (hashV (sb s) l:Nat)) W):=by
  have q:=ref_tagged s A n c l W hA hnil ho hs hn
  obtain ⟨d,hd⟩:∃ d,Hid (d=taggedN (sb s) l):=⟨_,Lib.hid rfl⟩
  have hdl:Hid (d.length=32):=by show _=_;rw [hd.out,taggedN_len]
  have hdo:okB d:=by rw [hd.out];exact okB_sha _
  rw [←hd.out] at q
  go_enter Tryz.func126,Tryz.ntmps126
  go_wp2_with fail
  with_reducible refine q.mono ?_
  rintro e w1 ⟨rfl,hb⟩
  clear q
  unfold dig
  have st1:=store_dig d hdl.out
  have ln1:(byts d).length=32:=by rw [byts_length,hdl.out]
  go_upto_region 2 with fail
  have BT:=Blk.new w1 43 (byts d).toArray _ rfl
  have hb2:=bAl hb (.cells (byts d).toArray 43)
  clear hb st1 ln1
  generalize w1.alloc (.cells (byts d).toArray 43)=w2 at *
  generalize w1.heap.size=bt at *
  obtain ⟨x,hx⟩:∃ x,Hid (d[0]?=some x):=⟨_,Lib.hid (List.getElem?_eq_getElem (by rw [hdl.out];omega))⟩
  have hx8:x<256:=hdo x (List.mem_of_getElem? hx.out)
  have c0:w2.cell? ⟨bt,0,none⟩=some (.int .u8 x):=by rw [BT.cell];simpa using byts_at hx.out
  have h1:Hid (((accB (headN d) 1:Nat):Int)=(x:Int) % 128):=by
    show _=_
    have e:accB (headN d) 1=x % 128:=by
      show 0*256+(headN d)[0]?.getD 0=_
      unfold headN
      rw [hx.out];simp
    rw [e];omega
  have hho:=okB_head hdo
  go_wp2_with fail
  go_loop [6,7] (fun s i=>∃ k:Nat,1≤k∧k≤8∧i = .int .i64 k∧s = .int .i64 (accB (headN d) k:Nat)) (fun _ i=>8 - (intOf i).toNat)
  case atStart=>exact ⟨1,Nat.le_refl _,by omega,rfl,by rw [h1.out]⟩
  case round =>
    clear c0
    obtain ⟨k,hk1,hk,rfl,rfl⟩:=hrel
    by_cases hlt:k<8
    · obtain ⟨y,hy⟩:∃ y,Hid (d[k]?=some y):=⟨_,Lib.hid (List.getElem?_eq_getElem (by rw [hdl.out];omega))⟩
      have hy8:y<256:=hdo y (List.mem_of_getElem? hy.out)
      have c0:w2.cell? ⟨bt,k,none⟩=some (.int .u8 y):=by rw [BT.cell];simpa using byts_at hy.out
      have hacc:accB (headN d) k≤36028797018963967:=by
        rcases k with _ | k
        · simp [accB]
        · have h:=accB_head d hdo k
          have h2:128*256 ^ k≤128*256 ^ 6:=Nat.mul_le_mul_left _ (Nat.pow_le_pow_right (by omega) (by omega))
          have h3:128*256 ^ 6=36028797018963968:=by decide
          omega
      have hs:Hid ((accB (headN d) k:Int)*256+(y:Int)=((accB (headN d) (k+1):Nat):Int)):=by
        show _=((accB (headN d) k*256+(headN d)[k]?.getD 0:Nat):Int)
        have e:(headN d)[k]?=some y:=by
          unfold headN
          cases k with
          | zero=>omega
          | succ k=>rw [List.getElem?_cons_succ,List.getElem?_drop,Nat.add_comm];exact hy.out
        rw [e];simp
      have hkI:(k:Int)<32:=by omega
      go_wp2_with fail
      exact ⟨⟨k+1,by omega,by omega,by go_num,by rw [←hs.out]⟩,by simp [intOf];omega⟩
    · have hk8:Hid (accB (headN d) k % 1073741789=hashV (sb s) l):=by
        have e:k=8:=by omega
        show _=_
        rw [e]
        unfold hashV hashN
        rw [←hd.out]
      go_wp2_with fail
      go_ret
      exact ⟨ret_int (by rw [←hk8.out];simp),hb2⟩
def set4 (w:World) (b:Nat) (v0 v1 v2 v3:Value):World :=
  (((w.setCell ⟨b,0,none⟩ v0).setCell ⟨b,1,none⟩ v1).setCell ⟨b,2,none⟩ v2).setCell ⟨b,3,none⟩ v3
theorem Blk.set4 {w:World} {b:Nat} {t:TypeId} {u0 u1 u2 u3:Value} (h:Blk w b t #[u0,u1,u2,u3]) (v0 v1 v2 v3:Value):Blk (Proofs.YtgkpomdegomgiaaGreatDoor.set4 w b v0 v1 v2 v3) b t #[v0,v1,v2,v3]:=by
  have:=(((h.set_ 0 v0).set_ 1 v1).set_ 2 v2).set_ 3 v3
  unfold Proofs.YtgkpomdegomgiaaGreatDoor.set4
  simpa using this
theorem Rd.far {w:World} {B sz n b off:Nat} {xs:List Value} (h:Rd w B sz (some ⟨b,off,none⟩) n xs) {p:Addr} (hp:b≠p.block) (u:Value):Rd (w.setCell p u) B sz (some ⟨b,off,none⟩) n xs :=
  ⟨h.1,fun hn=>by
    obtain ⟨b',off',e,hb,hc⟩:=h.2 hn
    injection e with e
    injection e with e1 e2
    subst e1;subst e2
    refine ⟨_,_,rfl,hb,fun j v hj=>?_⟩
    rw [←hc j v hj]
    have:=Below.heap_setCell w p u b hp
    unfold World.cell?
    simp only [this]⟩
def Opn.its2 (o:Opn):List It:=[.int o.at_,.int o.r0,.int o.r1,.int o.r2,.text (dgS o.salt)]
end Go.Proofs.YtgkpomdegomgiaaGreatDoor

/- The reference's digest: padded, Sum; walked. -/
import Derived.Test.YtgkpomdegomgiaaGreatDoorMbk
import Derived.Test.YtgkpomdegomgiaaGreatDoorMaw
import Derived.Test.YtgkpomdegomgiaaGreatDoorMac
import Derived.Test.YtgkpomdegomgiaaGreatDoorMad
import Derived.Test.YtgkpomdegomgiaaGreatDoorMbf
import Derived.Test.YtgkpomdegomgiaaGreatDoorMak
import Derived.Test.YtgkpomdegomgiaaGreatDoorMav
set_option maxRecDepth 1000000
set_option maxHeartbeats 16000000
namespace Go.Proofs.YtgkpomdegomgiaaGreatDoor
open Go.RowKit
theorem one_u8 (X:Int):∀ q∈[Value.int .u8 X],q.oneCell'=true:=by intro q hq;simp at hq;subst hq;rfl
theorem own_byte {w:World} {base n:Nat} {v:Value} {L:List Nat} {x:Nat} {Y:Int} (h:w.ownsRow base 5 1 v (n+1) (byts L++[.int .u8 Y])) (hY:Y=(x:Nat)):w.ownsRow base 5 1 v (n+1) (byts (L++[x])):=by
  subst hY
  unfold byts
  rw [List.map_append]
  exact h
theorem bytesN_next (N k:Nat) (h:k<8):bytesN (N / 256 ^ (8 - (k+1))) (k+1)=bytesN (N / 256 ^ (8 - k)) k++[N / 256 ^ (7 - k) % 256]:=by
  have e:8 - (k+1)=7 - k:=by omega
  have e2:8 - k=7 - k+1:=by omega
  rw [e,e2,Nat.pow_succ,←Nat.div_div_eq_div_mul]
  rfl
def RetOwn (n:Nat) (xs:List Value) (W:World) (r:Ending) (w':World):Prop:=∃ v,r = .returned v∧Below W.heap.size W w'∧w'.ownsRow W.heap.size 5 1 v n xs
theorem ownsRow_setRow {w:World} {base:Nat} {e:TypeId} {size n:Nat} {v:Value} {xs:List Value} (h:w.ownsRow base e size v n xs) {g:Nat} (hg:g<base) (cs:Array Value):(w.setRow g cs).ownsRow base e size v n xs:=by
  refine h.kept (row:=some g) ⟨rfl,rfl,rfl,by simp,fun k _ hk=>setRow_other w g k _ (fun e=>hk (by rw [e]))⟩ ?_
  cases hv:v.ownBlock with
  | none=>exact .inl rfl
  | some k=>exact .inr (by intro e;injection e with e;have:=(h.lt k hv).1;omega)
def padL (l:List Nat) (j:Nat):List Nat:=l++128::List.replicate j 0
theorem padL_len (l:List Nat) (j:Nat):(padL l j).length=l.length+1+j:=by simp [padL];omega
theorem padL_succ (l:List Nat) (j:Nat):padL l (j+1)=padL l j++[0]:=by simp [padL,List.replicate_succ']
def slLen:Value→Nat
  | .slice _ n _=>n
  | _=>0
def padZ (n:Nat):Nat:=(119 - n % 64) % 64
theorem pad_full (l:List Nat) (h:l.length*8<18446744073709551616):padL l (padZ l.length)++bytesN (l.length*8) 8=l++padN l.length:=by
  unfold padL padN padZ
  rw [Nat.mod_eq_of_lt h]
  simp
theorem ref_padded (A:Option Addr) (n c:Nat) (l:List Nat) (W:World) (hA:Rd W W.heap.size 1 A n (byts l)) (hnil:A=none→n=0∧c=0) (hn:n≤70368744177700) :
    Calls Tryz.prog 155 #[.slice A n c] W (RetOwn (l++padN l.length).length (byts (l++padN l.length)) W):=by
  obtain rfl:l.length=n:=by have:=hA.1;rw [byts_length,Nat.mul_one] at this;exact this
  have hown0:=World.ownsRow_lit (base:=W.heap.size) (e:=5) (size:=1) W #[] 0 (Nat.le_refl _) (by unfold maxLen;omega) rfl
  have hb0:=bAl (bRefl W) (.cells #[] 5)
  have hA1:=hA.below hb0
  have hone:=byts_oneCell (l:=l)
  have h63:0+l.length≤maxLen:=by unfold maxLen;omega
  have hby:(0+l.length)*1≤140737488355328:=by omega
  have hbs:=hb0.size
  have HF:=Lib.hid (pad_full l (by omega))
  obtain ⟨z,hz⟩:∃ z,Hid (z=padZ l.length):=⟨_,Lib.hid rfl⟩
  have hz64:z<64:=by rw [hz.out];exact Nat.mod_lt _ (by decide)
  have hz56:Hid ((l.length+1+z) % 64=56):=by show _=_;rw [hz.out];unfold padZ;omega
  rw [←hz.out] at HF
  go_enter Tryz.func155,Tryz.ntmps155
  go_wp2_with (at_builtin;first
    | (refine wpList_appendG (.tmp 6) (.tmp 7) 106 W.heap.size 5 (.int .u8 0) 1 1 _ 0 _ A l.length c W.heap.size (byts l) rfl rfl Tryz.underlying106 byte_info rfl (by omega) rfl hown0 rfl hA1 hnil hone h63 hby hbs ?_;intro v1 w1 hown1 hg1;have hb1:=hb0.trans (hg1.below hown0 hbs))
    | (refine wpList_append1G w1 [.int .u8 128] (.tmp 8) (.tmp 9) 106 W.heap.size 5 (.int .u8 0) 1 1 v1 (0+l.length) _ rfl rfl Tryz.underlying106 byte_info rfl (by omega) rfl hown1 rfl rfl (one_u8 _) (by unfold maxLen;omega) (by omega) hb1.size ?_;intro v2 w2 hown2 hg2;have hb2:=hb1.trans (hg2.below hown1 hb1.size)))
  have hown3:w2.ownsRow W.heap.size 5 1 v2 (l.length+1) (byts (padL l 0)):=by simpa [padL,byts] using hown2
  clear hown2 hown1 hown0 hg1 hg2 hb1 hb0 hA1 hbs hone h63 hby
  go_loopw [3] (fun v wr=>∃ j m:Nat,j≤z∧Hid (m=l.length+1+j)∧wr.ownsRow W.heap.size 5 1 v m (byts (padL l j))∧Below W.heap.size W wr) (fun v _=>18446744073709551616 - slLen v)
  case atStart=>exact ⟨0,_,Nat.zero_le _,Lib.hid rfl,hown3,hb2⟩
  case round =>
    clear hown3 hb2
    obtain ⟨j,m,hj,hm,hown,hb⟩:=hrel
    obtain ⟨A2,c2,hv,-⟩:=Sl.of_own hown
    subst hv
    have hm':=hm.out
    have hbs:=hb.size
    have hsn:=Lib.hid (padL_succ l j)
    by_cases hlt:j<z
    · have ht:((m:Int) % 64 != 56)=true:=by rw [bne_iff_ne];have:=hz56.out;omega
      have hm2:Hid (m+1=l.length+1+(j+1)):=by show _=_;omega
      have hmm:m≤70368744177800:=by omega
      have h63:m+1≤maxLen:=by unfold maxLen;omega
      have hby:(m+1)*1≤140737488355328:=by omega
      clear hm'
      go_wp2_with (at_builtin;refine wpList_append1G wr [.int .u8 0] (.tmp 15) (.tmp 16) 106 W.heap.size 5 (.int .u8 0) 1 1 _ m _ rfl rfl Tryz.underlying106 byte_info rfl (by omega) rfl hown rfl rfl (one_u8 _) h63 hby hbs ?_;intro v2 w2 hown2 hg2)
      obtain ⟨g',cap',rfl⟩:=ownsRow_succ hown2
      go_roundw
      case rel=>exact ⟨j+1,m+1,by omega,hm2,by rw [hsn.out];exact own_byte hown2 rfl,hb.trans (hg2.below hown hbs)⟩
      case measure=>simp [slLen];omega
    · have hjz:j=z:=by omega
      have ht:((m:Int) % 64 != 56)=false:=by rw [bne_eq_false_iff_eq];have:=hz56.out;omega
      have hmm:m≤70368744177800:=by omega
      have hzj:=Lib.hid hjz
      rw [hjz] at hown
      clear hjz hm' hlt hsn hj
      go_wp2_with fail
      obtain ⟨N,hN⟩:∃ N,Hid (N=l.length*8):=⟨_,Lib.hid rfl⟩
      have hNI:Hid (((l.length:Nat):Int)*8=(N:Int)):=by show _=_;rw [hN.out];omega
      rw [hNI.out]
      go_loopw [3,5] (fun v i wr=>∃ (k:Nat) (y:Int),Hid (y=7 - k) ∧ -1≤y∧y≤7∧i = .int .i64 y∧wr.ownsRow W.heap.size 5 1 v (m+k) (byts (padL l z++bytesN (N / 256 ^ (8 - k)) k))∧Below W.heap.size W wr) (fun _ i _=>(intOf i+1).toNat)
      case atStart=>exact ⟨0,7,Lib.hid rfl,by omega,by omega,rfl,by simpa [bytesN] using hown,hb⟩
      case round =>
        clear hown hb hbs ht
        obtain ⟨k,y,hy,hy0,hy7,rfl,hown,hb⟩:=hrel
        have hbs:=hb.size
        have h63:m+k+1≤maxLen:=by have:=hy.out;unfold maxLen;omega
        have hby:(m+k+1)*1≤140737488355328:=by have:=hy.out;omega
        have hstep:=Lib.hid (bytesN_next N k)
        obtain ⟨A3,c3,hv3,-⟩:=Sl.of_own hown
        have h9:y=7∨y=6∨y=5∨y=4∨y=3∨y=2∨y=1∨y=0∨y = -1:=by omega
        rcases h9 with rfl | rfl | rfl | rfl | rfl | rfl | rfl | rfl | rfl
        · obtain rfl:k=0:=by have:=hy.out;omega
          have hst:=Lib.hid (hstep.out (by omega))
          have hp:(256:Nat) ^ (7 - 0)=72057594037927936:=by decide
          clear hy hstep
          go_wp2_with (at_builtin;refine wpList_append1G wr [.int .u8 _] (.tmp 26) (.tmp 32) 106 W.heap.size 5 (.int .u8 0) 1 1 _ (m+0) _ rfl rfl Tryz.underlying106 byte_info rfl (by omega) rfl hown rfl rfl (one_u8 _) h63 hby hbs ?_;intro v2 w2 hown2 hg2)
          go_roundw
          case rel=>exact ⟨0+1,6,Lib.hid (by omega),by omega,by omega,rfl,by rw [hst.out,←List.append_assoc,←Nat.add_assoc];exact own_byte hown2 (by rw [hp];omega),hb.trans (hg2.below hown hbs)⟩
          case measure=>simp [intOf]
        · obtain rfl:k=1:=by have:=hy.out;omega
          have hst:=Lib.hid (hstep.out (by omega))
          have hp:(256:Nat) ^ (7 - 1)=281474976710656:=by decide
          clear hy hstep
          go_wp2_with (at_builtin;refine wpList_append1G wr [.int .u8 _] (.tmp 26) (.tmp 32) 106 W.heap.size 5 (.int .u8 0) 1 1 _ (m+1) _ rfl rfl Tryz.underlying106 byte_info rfl (by omega) rfl hown rfl rfl (one_u8 _) h63 hby hbs ?_;intro v2 w2 hown2 hg2)
          go_roundw
          case rel=>exact ⟨1+1,5,Lib.hid (by omega),by omega,by omega,rfl,by rw [hst.out,←List.append_assoc,←Nat.add_assoc];exact own_byte hown2 (by rw [hp];omega),hb.trans (hg2.below hown hbs)⟩
          case measure=>simp [intOf]
        · obtain rfl:k=2:=by have:=hy.out;omega
          have hst:=Lib.hid (hstep.out (by omega))
          have hp:(256:Nat) ^ (7 - 2)=1099511627776:=by decide
          clear hy hstep
          go_wp2_with (at_builtin;refine wpList_append1G wr [.int .u8 _] (.tmp 26) (.tmp 32) 106 W.heap.size 5 (.int .u8 0) 1 1 _ (m+2) _ rfl rfl Tryz.underlying106 byte_info rfl (by omega) rfl hown rfl rfl (one_u8 _) h63 hby hbs ?_;intro v2 w2 hown2 hg2)
          go_roundw
          case rel=>exact ⟨2+1,4,Lib.hid (by omega),by omega,by omega,rfl,by rw [hst.out,←List.append_assoc,←Nat.add_assoc];exact own_byte hown2 (by rw [hp];omega),hb.trans (hg2.below hown hbs)⟩
          case measure=>simp [intOf]
        · obtain rfl:k=3:=by have:=hy.out;omega
          have hst:=Lib.hid (hstep.out (by omega))
          have hp:(256:Nat) ^ (7 - 3)=4294967296:=by decide
          clear hy hstep
          go_wp2_with (at_builtin;refine wpList_append1G wr [.int .u8 _] (.tmp 26) (.tmp 32) 106 W.heap.size 5 (.int .u8 0) 1 1 _ (m+3) _ rfl rfl Tryz.underlying106 byte_info rfl (by omega) rfl hown rfl rfl (one_u8 _) h63 hby hbs ?_;intro v2 w2 hown2 hg2)
          go_roundw
          case rel=>exact ⟨3+1,3,Lib.hid (by omega),by omega,by omega,rfl,by rw [hst.out,←List.append_assoc,←Nat.add_assoc];exact own_byte hown2 (by rw [hp];omega),hb.trans (hg2.below hown hbs)⟩
          case measure=>simp [intOf]
        · obtain rfl:k=4:=by have:=hy.out;omega
          have hst:=Lib.hid (hstep.out (by omega))
          have hp:(256:Nat) ^ (7 - 4)=16777216:=by decide
          clear hy hstep
          go_wp2_with (at_builtin;refine wpList_append1G wr [.int .u8 _] (.tmp 26) (.tmp 32) 106 W.heap.size 5 (.int .u8 0) 1 1 _ (m+4) _ rfl rfl Tryz.underlying106 byte_info rfl (by omega) rfl hown rfl rfl (one_u8 _) h63 hby hbs ?_;intro v2 w2 hown2 hg2)
          go_roundw
          case rel=>exact ⟨4+1,2,Lib.hid (by omega),by omega,by omega,rfl,by rw [hst.out,←List.append_assoc,←Nat.add_assoc];exact own_byte hown2 (by rw [hp];omega),hb.trans (hg2.below hown hbs)⟩
          case measure=>simp [intOf]
        · obtain rfl:k=5:=by have:=hy.out;omega
          have hst:=Lib.hid (hstep.out (by omega))
          have hp:(256:Nat) ^ (7 - 5)=65536:=by decide
          clear hy hstep
          go_wp2_with (at_builtin;refine wpList_append1G wr [.int .u8 _] (.tmp 26) (.tmp 32) 106 W.heap.size 5 (.int .u8 0) 1 1 _ (m+5) _ rfl rfl Tryz.underlying106 byte_info rfl (by omega) rfl hown rfl rfl (one_u8 _) h63 hby hbs ?_;intro v2 w2 hown2 hg2)
          go_roundw
          case rel=>exact ⟨5+1,1,Lib.hid (by omega),by omega,by omega,rfl,by rw [hst.out,←List.append_assoc,←Nat.add_assoc];exact own_byte hown2 (by rw [hp];omega),hb.trans (hg2.below hown hbs)⟩
          case measure=>simp [intOf]
        · obtain rfl:k=6:=by have:=hy.out;omega
          have hst:=Lib.hid (hstep.out (by omega))
          have hp:(256:Nat) ^ (7 - 6)=256:=by decide
          clear hy hstep
          go_wp2_with (at_builtin;refine wpList_append1G wr [.int .u8 _] (.tmp 26) (.tmp 32) 106 W.heap.size 5 (.int .u8 0) 1 1 _ (m+6) _ rfl rfl Tryz.underlying106 byte_info rfl (by omega) rfl hown rfl rfl (one_u8 _) h63 hby hbs ?_;intro v2 w2 hown2 hg2)
          go_roundw
          case rel=>exact ⟨6+1,0,Lib.hid (by omega),by omega,by omega,rfl,by rw [hst.out,←List.append_assoc,←Nat.add_assoc];exact own_byte hown2 (by rw [hp];omega),hb.trans (hg2.below hown hbs)⟩
          case measure=>simp [intOf]
        · obtain rfl:k=7:=by have:=hy.out;omega
          have hst:=Lib.hid (hstep.out (by omega))
          have hp:(256:Nat) ^ (7 - 7)=1:=by decide
          clear hy hstep
          go_wp2_with (at_builtin;refine wpList_append1G wr [.int .u8 _] (.tmp 26) (.tmp 32) 106 W.heap.size 5 (.int .u8 0) 1 1 _ (m+7) _ rfl rfl Tryz.underlying106 byte_info rfl (by omega) rfl hown rfl rfl (one_u8 _) h63 hby hbs ?_;intro v2 w2 hown2 hg2)
          go_roundw
          case rel=>exact ⟨7+1,-1,Lib.hid (by omega),by omega,by omega,rfl,by rw [hst.out,←List.append_assoc,←Nat.add_assoc];exact own_byte hown2 (by rw [hp];omega),hb.trans (hg2.below hown hbs)⟩
          case measure=>simp [intOf]
        · obtain rfl:k=8:=by have:=hy.out;omega
          go_wp2_with fail
          go_ret
          refine ⟨_,rfl,hb,?_⟩
          have e:padL l z++bytesN (N / 256 ^ (8 - 8)) 8=l++padN l.length:=by
            have h:=HF.out
            rw [←hN.out] at h
            rw [Nat.sub_self,Nat.pow_zero,Nat.div_one]
            exact h
          rw [e] at hown
          have e2:(l++padN l.length).length=m+8:=by rw [←HF.out,List.length_append,padL_len,bytesN_len,hm.out,hzj.out]
          rw [e2]
          exact hown
theorem pad_blocks (l:List Nat):(l++padN l.length).length=64 * ((l.length+72) / 64):=by
  rw [List.length_append,padN_len];omega
theorem flatN_at:∀ (l:List Nat) (i j x:Nat),l[i]?=some x→j<4→(l.flatMap fun v=>bytesN v 4)[4*i+j]?=(bytesN x 4)[j]?
  | [],i,j,x,h,_=>by simp at h
  | y::l,0,j,x,h,hj=>by
    simp only [List.getElem?_cons_zero,Option.some.injEq] at h
    subst h
    rw [List.flatMap_cons,Nat.mul_zero,Nat.zero_add,List.getElem?_append_left (by rw [bytesN_len];exact hj)]
  | y::l,i+1,j,x,h,hj=>by
    simp only [List.getElem?_cons_succ] at h
    rw [List.flatMap_cons,List.getElem?_append_right (by rw [bytesN_len];omega),bytesN_len]
    have:4 * (i+1)+j - 4=4*i+j:=by omega
    rw [this]
    exact flatN_at l i j x h hj
theorem bytes4 (x:Nat):bytesN x 4=[x / 16777216 % 256,x / 65536 % 256,x / 256 % 256,x % 256]:=by
  show [x / 256 / 256 / 256 % 256,x / 256 / 256 % 256,x / 256 % 256,x % 256]=_
  simp only [Nat.div_div_eq_div_mul]
theorem set_byte {X:List Nat} {k y:Nat} {Y:Int} (h:X[k]?=some y) (hk:k<32) (hY:Y=(y:Nat)) :
    (byts (X.take k++zerosN (32 - k))).toArray.setIfInBounds k (.int .u8 Y)=(byts (X.take (k+1)++zerosN (32 - (k+1)))).toArray:=by
  subst hY
  obtain ⟨hl,rfl⟩:=List.getElem?_eq_some_iff.1 h
  rw [List.setIfInBounds_toArray]
  congr 1
  have e:32 - k=(32 - (k+1))+1:=by omega
  have hlen:(X.take k).length=k:=by rw [List.length_take];omega
  rw [List.take_succ_eq_append_getElem hl,e]
  unfold byts zerosN
  rw [List.replicate_succ,List.map_append,List.map_append,List.map_append,List.set_append_right _ _ (by rw [List.length_map,hlen];exact Nat.le_refl _),List.length_map,hlen,Nat.sub_self]
  simp
theorem Blk.setByte {w:World} {g k y:Nat} {t:TypeId} {X:List Nat} {Y:Int} (h:Blk w g t (byts (X.take k++zerosN (32 - k))).toArray) (hy:X[k]?=some y) (hk:k<32) (hY:Y=(y:Nat)) :
    Blk (w.setCell ⟨g,k,none⟩ (.int .u8 Y)) g t (byts (X.take (k+1)++zerosN (32 - (k+1)))).toArray:=by
  rw [←set_byte hy hk hY]
  exact h.set_ k _
theorem ref_sum (A:Option Addr) (n c:Nat) (l:List Nat) (W:World) (hA:Rd W W.heap.size 1 A n (byts l)) (hnil:A=none→n=0∧c=0) (ho:okB l) (hn:n≤70368744177700) :
    Calls Tryz.prog 129 #[.slice A n c] W (Ret (dig (shaN l)) W):=by
  obtain rfl:l.length=n:=by have:=hA.1;rw [byts_length,Nat.mul_one] at this;exact this
  have hPB:=Lib.hid (pad_blocks l)
  have HS:Hid (shaN l=(blocksS shaS (l++padN l.length) ((l.length+72) / 64)).list.flatMap fun v=>bytesN v 4):=Lib.hid rfl
  obtain ⟨M,hM⟩:∃ M,Hid (M=(l.length+72) / 64):=⟨_,Lib.hid rfl⟩
  rw [←hM.out] at HS hPB
  have hMl:M≤70368744177800:=by rw [hM.out];omega
  have q1:=fun w (h:Below W.heap.size W w)=>ref_padded A l.length c l w ((hA.below h).more h.size) hnil hn
  have hoP:okB (l++padN l.length):=okB_app ho (okB_pad _)
  generalize l++padN l.length=P at *
  obtain ⟨n2,hn2⟩:∃ n2,Hid (n2=P.length):=⟨_,Lib.hid rfl⟩
  rw [←hn2.out] at hPB q1
  generalize shaN l=X at *
  go_enter Tryz.func129,Tryz.ntmps129
  go_upto_region 2 with fail
  change Code.wp _ _ _ _ ((W.alloc (.cells (byts (zerosN 32)).toArray 43)).alloc (.cells (u32s shaS.list).toArray 201))
  have BD:=(Blk.new W 43 (byts (zerosN 32)).toArray _ rfl).alloc (.cells (u32s shaS.list).toArray 201)
  have BS:=Blk.new (W.alloc (.cells (byts (zerosN 32)).toArray 43)) 201 (u32s shaS.list).toArray (W.heap.size+1) (by simp)
  have hb:=bAl (bAl (bRefl W) (.cells (byts (zerosN 32)).toArray 43)) (.cells (u32s shaS.list).toArray 201)
  generalize (W.alloc (.cells (byts (zerosN 32)).toArray 43)).alloc (.cells (u32s shaS.list).toArray 201)=w1 at *
  have q2:=q1 w1 hb
  go_wp2_with fail
  (with_reducible refine q2.mono ?_)
  rintro e w2 ⟨v2,rfl,b2,hown⟩
  obtain ⟨A2,c2,hv2,-⟩:=Sl.of_own hown
  subst hv2
  have hw1:W.heap.size+1<w1.heap.size:=BS.lt
  have hb2:=bCall hb b2
  have BD2:=BD.below b2 BD.lt
  have BS2:=BS.below b2 BS.lt
  clear q1 q2 hb BD BS b2
  go_wp2_with fail
  go_loopw [5] (fun i wr=>∃ j q:Nat,j≤M∧Hid (q=64*j)∧q≤n2∧i = .int .i64 q∧Below W.heap.size W wr∧wr.ownsRow w1.heap.size 5 1 (.slice A2 n2 c2) n2 (byts P)∧Blk wr W.heap.size 43 (byts (zerosN 32)).toArray∧Blk wr (W.heap.size+1) 201 (u32s (blocksS shaS P j).list).toArray) (fun i _=>n2 - (intOf i).toNat)
  case atStart=>exact ⟨0,0,Nat.zero_le _,Lib.hid rfl,Nat.zero_le _,rfl,hb2,hown,BD2,BS2⟩
  case round =>
    clear hb2 BD2 BS2 hown
    obtain ⟨j,q,hj,hq,hqn,rfl,hb,hown,BD,BS⟩:=hrel
    obtain ⟨_,_,hv2,hR,hc2,hc3,_⟩:=Sl.of_own hown
    injection hv2 with e1 _ e3
    subst e1;subst e3
    by_cases hlt:q<n2
    · have hq64:q+64≤n2:=by have:=hPB.out;have:=hq.out;omega
      have hqc:q<c2:=by omega
      have hjM:j<M:=by have:=hPB.out;have:=hq.out;omega
      obtain ⟨b,off,rfl,hbb,hcc⟩:=hR.2 (by omega)
      have sok:(blocksS shaS P j).ok:=blocksS_ok shaS_ok j
      have hnx:Hid (blocksS shaS P (j+1)=blockS (blocksS shaS P j) ((P.drop q).take 64)):=by show _=_;rw [hq.out];rfl
      have hR2:Rd wr wr.heap.size 1 (some ⟨b,off+q,none⟩) 64 (byts ((P.drop q).take 64)):=by
        refine ⟨by rw [byts_length,List.length_take,List.length_drop,←hn2.out];omega,fun _=>⟨b,off+q,rfl,hbb,fun i u hu=>?_⟩⟩
        have hi:i<64:=by
          have:=(List.getElem?_eq_some_iff.1 hu).1
          rw [byts_length,List.length_take] at this;omega
        rw [Nat.add_assoc]
        refine hcc _ _ ?_
        unfold byts at hu ⊢
        rw [List.getElem?_map] at hu ⊢
        rw [List.getElem?_take,if_pos hi,List.getElem?_drop] at hu
        exact hu
      have hoB:okB ((P.drop q).take 64):=okB_take (okB_drop hoP q) 64
      generalize (P.drop q).take 64=Bl at *
      generalize blocksS shaS P j=s at *
      obtain ⟨s2,hs2⟩:∃ s2,Hid (s2=blockS s Bl):=⟨_,Lib.hid rfl⟩
      obtain ⟨q0,q1,q2,q3,q4,q5,q6,q7⟩:=st_cells BS
      have KS:Hid (∀ w',Below wr.heap.size wr w'→_):=Lib.hid (fun w' h=>st_cells (BS.below h BS.lt))
      have qb:=ref_block s b (off+q) (c2 - q) Bl wr.drew sok hR2 hoB (by omega) (by omega)
      rw [←hs2.out] at qb
      have fw:IntKind.i64.wrap ((q:Int)+64)=(q:Int)+64:=by rw [IntKind.wrap_i64];omega
      have ft:((q:Int)+64).toNat=q+64:=by omega
      have f1:(q:Int)+64≤(c2:Int):=by omega
      have f0:(0:Int)≤(q:Int)+64:=by omega
      have fq:¬(c2=q):=by omega
      have fs:q+64 - q=64:=by omega
      have fl:q≤q+64:=by omega
      go_upto_region 6 with fail
      refine wp_region_schB (f:=7) KS [(0,2),(1,1),(2,1),(3,1),(4,1),(5,1),(6,0),(7,3)] ?_
      simp only [pickS,List.getElem?_cons_zero,List.getElem?_cons_succ]
      refine wpSched_r ?_
      refine wpSched_t ?_
      refine wpSched_t ?_
      refine wpSched_t ?_
      refine wpSched_t ?_
      refine wpSched_t ?_
      refine wpSched_force (fun K hK=>?_)
      go_simp;(first | (go_at_call 156;(with_reducible refine qb.mono ?_);rintro e w9 ⟨rfl,b9⟩;have B7:Below wr.heap.size wr w9:=bCall (bDr (bRefl _)) b9) | skip)
      refine shut_go hK KS ?_
      clear hK K
      refine wpSched_last ?_
      first | simp only [List.map_nil] | simp only [List.map_cons,List.map_nil]
      have BD9:=BD.below B7 BD.lt
      have BS9:=BS.below B7 BS.lt
      have hb9:=bCall hb B7
      have hown9:=ownsRow_setRow (ownsRow_keep hown B7) hw1 (u32s s2.list).toArray
      clear KS q0 q1 q2 q3 q4 q5 q6 q7 BD BS hb B7 qb hR2 hown hR
      have hX1:=u32s_one s2.list
      refine wpList_storeG (v := .agg (u32s s2.list).toArray) (by rfl) (by rfl) (by rfl) (by rfl) (store_whole BS9 (by exact (by kernel_rfl:(Tryz.prog.info? 201).map (·.size)=some 8)) (by rw [List.size_toArray,List.size_toArray,u32s_length,u32s_length];rfl) hX1) ?_
      simp only [Act.put]
      have BR:=BS9.row (u32s s2.list).toArray
      have BD2:=BD9.farRow (show W.heap.size≠W.heap.size+1 by omega) (u32s s2.list).toArray
      have hbS:=below_setRow hb9 (show W.heap.size≤W.heap.size+1 by omega) (u32s s2.list).toArray
      generalize w9.setRow (W.heap.size+1) (u32s s2.list).toArray=w5 at *
      go_wp2_with fail
      refine NoPanic.normal ?_
      go_wp2_with fail
      exact ⟨⟨j+1,q+64,by omega,Lib.hid (by have:=hq.out;omega),hq64,by go_num,hbS,hown9,BD2,by rw [hnx.out,←hs2.out];exact BR⟩,by simp [intOf];omega⟩
    · have hj2:j=M:=by have:=hPB.out;have:=hq.out;omega
      rw [hj2] at BS
      have sok:(blocksS shaS P M).ok:=blocksS_ok shaS_ok M
      clear hj2 hj hq hqn hown hR
      generalize blocksS shaS P M=s at *
      have HX:=HS.out
      have hXl:Hid (X.length=32):=by show _=_;rw [HX,flat4_len];rfl
      have hXo:okB X:=by rw [HX];intro y hy;obtain ⟨v,_,hv⟩:=List.mem_flatMap.1 hy;exact bytesN_lt v 4 y hv
      have hsl:s.list.length=8:=rfl
      have hslt:∀ x∈s.list,x<4294967296:=by
        obtain ⟨o0,o1,o2,o3,o4,o5,o6,o7⟩:=sok
        intro x hx
        simp only [S8.list,List.mem_cons,List.not_mem_nil,or_false] at hx
        rcases hx with rfl | rfl | rfl | rfl | rfl | rfl | rfl | rfl <;> assumption
      have HX2:=Lib.hid HX
      have Hsl:=Lib.hid hsl
      clear HX HS hsl
      go_upto_region 7 with fail
      apply wp_region_lit
      iterate 6 go_step
      refine wpList_storeG (v := .agg (byts (zerosN 32)).toArray) (by rfl) (by rfl) (by rfl) (by rfl) (store_newW (by exact dig_info) (by rfl) (byts_oneCell (l:=zerosN 32))) ?_
      simp only [Act.put]
      have BX:=Blk.new wr 43 (byts (zerosN 32)).toArray _ rfl
      have BD1:=BD.alloc (.cells (byts (zerosN 32)).toArray 43)
      have BS1:=BS.alloc (.cells (byts (zerosN 32)).toArray 43)
      have hb1:=bAl hb (.cells (byts (zerosN 32)).toArray 43)
      have hg1:W.heap.size+1<wr.heap.size:=BS.lt
      clear BD BS hb
      generalize wr.alloc (.cells (byts (zerosN 32)).toArray 43)=w5 at *
      generalize wr.heap.size=g at *
      go_wp2_with fail
      go_loopw [7] (fun i wr=>∃ k:Nat,k≤32∧i = .int .i64 k∧Below W.heap.size W wr∧Blk wr W.heap.size 43 (byts (zerosN 32)).toArray∧Blk wr (W.heap.size+1) 201 (u32s s.list).toArray∧Blk wr g 43 (byts (X.take k++zerosN (32 - k))).toArray) (fun i _=>32 - (intOf i).toNat)
      case atStart=>exact ⟨0,Nat.zero_le _,rfl,hb1,BD1,BS1,BX⟩
      case round =>
        clear hb1 BD1 BS1 BX hlt
        obtain ⟨k,hk,rfl,hb,BD,BS,BX⟩:=hrel
        by_cases hlt:k<32
        · obtain ⟨Q,R,hQ,hR4,hQ8⟩:∃ Q R,k=4*Q+R∧R<4∧Q<8:=⟨k / 4,k % 4,by omega,by omega,by omega⟩
          obtain ⟨x,hx⟩:∃ x,Hid (s.list[Q]?=some x):=⟨_,Lib.hid (List.getElem?_eq_getElem (by rw [Hsl.out];exact hQ8))⟩
          have hx4:=hslt x (List.mem_of_getElem? hx.out)
          have hxk:Hid (X[k]?=(bytesN x 4)[R]?):=by show _=_;rw [HX2.out,hQ];exact flatN_at _ _ _ _ hx.out hR4
          have c0:wr.cell? ⟨W.heap.size+1,Q,none⟩=some (.int .u32 x):=by rw [BS.cell];simpa using u32s_at hx.out
          have z0:=BX.frozen k
          obtain ⟨y0,hy0⟩:∃ y,wr.cell? ⟨g,k,none⟩=some y:=⟨_,(BX.cell k).trans (Array.getElem?_eq_getElem (by rw [List.size_toArray,byts_length,List.length_append,List.length_take,zerosN_len,hXl.out];omega))⟩
          have e1:(k:Int) / 4=(Q:Int):=by omega
          have e2:(Q:Int)<8:=by omega
          have e3:(k:Int)<32:=by omega
          have hr4:R=0∨R=1∨R=2∨R=3:=by omega
          rw [bytes4] at hxk
          rcases hr4 with rfl | rfl | rfl | rfl
          · have e4:(k:Int) % 4=0:=by omega
            have hy:X[k]?=some (x / 16777216 % 256):=hxk.out
            have HY:=Lib.hid hy
            clear hQ hxk hy
            go_wp2_with fail
            refine ⟨⟨k+1,by omega,by go_num,bSet hb (by show W.heap.size≤g;omega) _,BD.far (by show W.heap.size≠g;omega) _,BS.far (by show W.heap.size+1≠g;omega) _,?_⟩,by simp [intOf];omega⟩
            exact BX.setByte HY.out hlt (by omega)
          · have e4:(k:Int) % 4=1:=by omega
            have hy:X[k]?=some (x / 65536 % 256):=hxk.out
            have HY:=Lib.hid hy
            clear hQ hxk hy
            go_wp2_with fail
            refine ⟨⟨k+1,by omega,by go_num,bSet hb (by show W.heap.size≤g;omega) _,BD.far (by show W.heap.size≠g;omega) _,BS.far (by show W.heap.size+1≠g;omega) _,?_⟩,by simp [intOf];omega⟩
            exact BX.setByte HY.out hlt (by omega)
          · have e4:(k:Int) % 4=2:=by omega
            have hy:X[k]?=some (x / 256 % 256):=hxk.out
            have HY:=Lib.hid hy
            clear hQ hxk hy
            go_wp2_with fail
            refine ⟨⟨k+1,by omega,by go_num,bSet hb (by show W.heap.size≤g;omega) _,BD.far (by show W.heap.size≠g;omega) _,BS.far (by show W.heap.size+1≠g;omega) _,?_⟩,by simp [intOf];omega⟩
            exact BX.setByte HY.out hlt (by omega)
          · have e4:(k:Int) % 4=3:=by omega
            have hy:X[k]?=some (x % 256):=hxk.out
            have HY:=Lib.hid hy
            clear hQ hxk hy
            go_wp2_with fail
            refine ⟨⟨k+1,by omega,by go_num,bSet hb (by show W.heap.size≤g;omega) _,BD.far (by show W.heap.size≠g;omega) _,BS.far (by show W.heap.size+1≠g;omega) _,?_⟩,by simp [intOf];omega⟩
            exact BX.setByte HY.out hlt (by omega)
        · have hk32:k=32:=by omega
          have BX2:Blk wr g 43 (byts X).toArray:=by
            rw [hk32,List.take_of_length_le (by rw [hXl.out];exact Nat.le_refl _)] at BX
            simpa [zerosN] using BX
          have hXs:(byts X).toArray.size=32:=by rw [List.size_toArray,byts_length,hXl.out]
          clear hk32 BX
          go_upto_region 12 with fail
          apply wp_region_lit
          refine wpList_load_row rfl 43 (.tmp 6) rfl g rfl 43 (byts X).toArray (0,0) _ BX2 dig_under rfl (by rw [hXs];exact dig_info) ?_
          refine wpList_store_row rfl 43 (.tmp 2) (.tmp 41) rfl W.heap.size (byts X).toArray rfl rfl 43 _ BD (by rw [hXs];exact dig_info) (by rw [hXs];rfl) (byts_one _) ?_
          have hb9:=below_setRow hb (Nat.le_refl _) (byts X).toArray
          have BD9:Blk (wr.setRow W.heap.size (byts X).toArray) W.heap.size 43 (byts X).toArray:=setRow_heap wr W.heap.size _ _ 43 _ BD
          go_wp2_with fail
          exact bodyPost_ret (v := .agg (byts X).toArray) (results_cell_row rfl _ _ W.heap.size 43 _ (0,0) _ rfl BD9 dig_under rfl (by rw [hXs];exact dig_info)) rfl ⟨rfl,hb9⟩
theorem Sl.of_byts {w:World} {g:Nat} {t:TypeId} {l:List Nat} (h:Blk w g t (byts l).toArray):Rd w w.heap.size 1 (some ⟨g,0,none⟩) l.length (byts l) :=
  ⟨by rw [byts_length,Nat.mul_one],fun _=>⟨g,0,rfl,h.lt,fun j u hu=>by rw [Nat.zero_add,h.cell];simpa using hu⟩⟩
theorem ref_tagged (s:ByteArray) (A:Option Addr) (n c:Nat) (l:List Nat) (W:World) (hA:Rd W W.heap.size 1 A n (byts l)) (hnil:A=none→n=0∧c=0) (ho:okB l) (hs:s.size≤1000000) (hn:n≤70368744177600) :
    Calls Tryz.prog 91 #[.string s,.slice A n c] W (Ret (dig (taggedN (sb s) l)) W):=by
  obtain rfl:l.length=n:=by have:=hA.1;rw [byts_length,Nat.mul_one] at this;exact this
  go_enter Tryz.func91,Tryz.ntmps91
  have hcv:=fun (w:World)=>Lib.run_convert_string_bytes (P:=Tryz.prog) w 9 106 5 s Tryz.underlying9 Tryz.underlying106 Tryz.underlying5
  go_upto_region 1 with fail
  change Code.wp _ _ _ _ (W.alloc (.cells (byts (zerosN 32)).toArray 43))
  have BD:=Blk.new W 43 (byts (zerosN 32)).toArray _ rfl
  have hb:=bAl (bRefl W) (.cells (byts (zerosN 32)).toArray 43)
  generalize W.alloc (.cells (byts (zerosN 32)).toArray 43)=w1 at *
  go_wp2_with fail
  refine (ref_sum _ _ _ (sb s) _ (by exact rd_bytes w1 _ s _ rfl) (by intro h;cases h) (sb_ok s) (by omega)).mono ?_
  rintro e w2 ⟨rfl,b2⟩
  have hbB:=bCall hb (below_bytes w1 5 s)
  have hb2:=bCall hbB b2
  have BD2:Blk w2 W.heap.size 43 (byts (zerosN 32)).toArray:=(BD.below (below_bytes w1 5 s) BD.lt).below b2 (by rw [Lib.bytesWorld_size];have:=BD.lt;omega)
  clear b2 hbB BD hb hcv
  unfold dig
  have st1:=store_dig (shaN (sb s)) (shaN_len _)
  have ln1:(byts (shaN (sb s))).length=32:=by rw [byts_length,shaN_len]
  go_upto_region 2 with fail
  have BT:=Blk.new w2 43 (byts (shaN (sb s))).toArray _ rfl
  have hb3:=bAl hb2 (.cells (byts (shaN (sb s))).toArray 43)
  have BD3:=BD2.alloc (.cells (byts (shaN (sb s))).toArray 43)
  have hlt:W.heap.size<w2.heap.size:=BD2.lt
  clear hb2 BD2 st1 ln1
  generalize w2.alloc (.cells (byts (shaN (sb s))).toArray 43)=w3 at *
  generalize w2.heap.size=bt at *
  have hTs:=shaN_len (sb s)
  have hTo:=okB_sha (sb s)
  have hT:Hid (taggedN (sb s) l=shaN (shaN (sb s)++l)):=Lib.hid rfl
  generalize shaN (sb s)=T at *
  have HTs:=Lib.hid hTs
  have hown0:=World.ownsRow_lit (base:=W.heap.size+1) (e:=5) (size:=1) w3 #[] 0 (Nat.le_trans hlt (Nat.le_of_lt BT.lt)) (by unfold maxLen;omega) rfl
  have hb4:=bAl hb3 (.cells #[] 5)
  have BD4:=BD3.alloc (.cells #[] 5)
  have hR4:Rd (w3.alloc (.cells #[] 5)) (w3.alloc (.cells #[] 5)).heap.size 1 (some ⟨bt,0,none⟩) 32 (byts T):=by have:=Sl.of_byts (BT.alloc (.cells #[] 5));rwa [hTs] at this
  have hone:=byts_oneCell (l:=T)
  have hone2:=byts_oneCell (l:=l)
  have hs4:W.heap.size+1≤(w3.alloc (.cells #[] 5)).heap.size:=BD4.lt
  clear hTs hb3 BD3 BT
  go_wp2_with (at_builtin;first
    | (refine wpList_appendG (.tmp 9) (.tmp 10) 106 (W.heap.size+1) 5 (.int .u8 0) 1 1 _ 0 _ (some ⟨bt,0,none⟩) 32 32 (w3.alloc (.cells #[] 5)).heap.size (byts T) rfl rfl Tryz.underlying106 byte_info rfl (by omega) rfl hown0 rfl hR4 (by intro h;cases h) hone (by unfold maxLen;omega) (by omega) hs4 ?_;intro v5 w5 hown5 hg5;have b5:=hg5.below hown0 hs4;have hb5:=hb4.trans (b5.mono (by omega));have BD5:=BD4.below b5 (by omega);have hA5:=hA.below hb5;have hs5:W.heap.size+1≤w5.heap.size:=Nat.le_trans hs4 hg5.size)
    | (refine wpList_appendG (.tmp 11) (.tmp 12) 106 (W.heap.size+1) 5 (.int .u8 0) 1 1 v5 (0+32) _ A l.length c W.heap.size (byts l) rfl rfl Tryz.underlying106 byte_info rfl (by omega) rfl hown5 rfl hA5 hnil hone2 (by unfold maxLen;omega) (by omega) hs5 ?_;intro v6 w6 hown6 hg6;have b6:=hg6.below hown5 hs5;have hb6:=hb5.trans (b6.mono (by omega));have BD6:=BD5.below b6 (by omega);obtain ⟨A6,c6,hv6,hR6,hc6,hc62,hn6⟩:=Sl.of_own hown6;subst hv6))
  obtain ⟨X,hX⟩:∃ X,Hid (X=T++l):=⟨_,Lib.hid rfl⟩
  have hXl:Hid (X.length=0+32+l.length):=by show _=_;rw [hX.out,List.length_append,HTs.out]
  have hR7:Rd w6 w6.heap.size 1 A6 (0+32+l.length) (byts X):=by
    have e:byts X=[]++byts T++byts l:=by rw [hX.out];simp [byts]
    rw [e];exact hR6
  have q:=ref_sum A6 _ c6 X w6 hR7 hn6 (by rw [hX.out];exact okB_app hTo ho) (by omega)
  rw [←hX.out] at hT
  clear hR6 hR7 hown6 hown5 hown0 hg6 hg5 BD5 BD4 b5 b6 hb5 hb4 hA5 hs5 hs4 hn6 hR4
  (with_reducible refine q.mono ?_)
  rintro e w7 ⟨rfl,b7⟩
  have hb7:=bCall hb6 b7
  have BD7:=BD6.below b7 BD6.lt
  clear q
  dsimp only
  (refine ‹∀ (a:Act) (w:World),wpList _ _ _ _ a w→_› _ _ ?_)
  refine wpList_store_row rfl 43 (.tmp 4) (.tmp 14) rfl W.heap.size (byts (shaN X)).toArray rfl rfl 43 _ BD7 (by rw [List.size_toArray,byts_length,shaN_len];exact dig_info) (by rw [List.size_toArray,List.size_toArray,byts_length,byts_length,shaN_len];rfl) (byts_one _) ?_
  have hb9:=below_setRow hb7 (Nat.le_refl _) (byts (shaN X)).toArray
  have BD9:Blk (w7.setRow W.heap.size (byts (shaN X)).toArray) W.heap.size 43 (byts (shaN X)).toArray:=setRow_heap w7 W.heap.size _ _ 43 _ BD7
  go_wp2_with fail
  exact bodyPost_ret (v:=dig (shaN X)) (results_cell_row rfl _ _ W.heap.size 43 _ (0,0) _ rfl BD9 dig_under rfl (by rw [List.size_toArray,byts_length,shaN_len];exact dig_info)) rfl ⟨by unfold dig;rw [hT.out],hb9⟩
theorem ref_hash (s:ByteArray) (A:Option Addr) (n c:Nat) (l:List Nat) (W:World) (hA:Rd W W.heap.size 1 A n (byts l)) (hnil:A=none→n=0∧c=0) (ho:okB l) (hs:s.size≤1000000) (hn:n≤70368744177600) :
    Calls Tryz.prog 126 #[.string s,.slice A n c] W (Ret (.int .i64 (hashV (sb s) l:Nat)) W):=by
  have q:=ref_tagged s A n c l W hA hnil ho hs hn
  obtain ⟨d,hd⟩:∃ d,Hid (d=taggedN (sb s) l):=⟨_,Lib.hid rfl⟩
  have hdl:Hid (d.length=32):=by show _=_;rw [hd.out,taggedN_len]
  have hdo:okB d:=by rw [hd.out];exact okB_sha _
  rw [←hd.out] at q
  go_enter Tryz.func126,Tryz.ntmps126
  go_wp2_with fail
  with_reducible refine q.mono ?_
  rintro e w1 ⟨rfl,hb⟩
  clear q
  unfold dig
  have st1:=store_dig d hdl.out
  have ln1:(byts d).length=32:=by rw [byts_length,hdl.out]
  go_upto_region 2 with fail
  have BT:=Blk.new w1 43 (byts d).toArray _ rfl
  have hb2:=bAl hb (.cells (byts d).toArray 43)
  clear hb st1 ln1
  generalize w1.alloc (.cells (byts d).toArray 43)=w2 at *
  generalize w1.heap.size=bt at *
  obtain ⟨x,hx⟩:∃ x,Hid (d[0]?=some x):=⟨_,Lib.hid (List.getElem?_eq_getElem (by rw [hdl.out];omega))⟩
  have hx8:x<256:=hdo x (List.mem_of_getElem? hx.out)
  have c0:w2.cell? ⟨bt,0,none⟩=some (.int .u8 x):=by rw [BT.cell];simpa using byts_at hx.out
  have h1:Hid (((accB (headN d) 1:Nat):Int)=(x:Int) % 128):=by
    show _=_
    have e:accB (headN d) 1=x % 128:=by
      show 0*256+(headN d)[0]?.getD 0=_
      unfold headN
      rw [hx.out];simp
    rw [e];omega
  have hho:=okB_head hdo
  go_wp2_with fail
  go_loop [6,7] (fun s i=>∃ k:Nat,1≤k∧k≤8∧i = .int .i64 k∧s = .int .i64 (accB (headN d) k:Nat)) (fun _ i=>8 - (intOf i).toNat)
  case atStart=>exact ⟨1,Nat.le_refl _,by omega,rfl,by rw [h1.out]⟩
  case round =>
    clear c0
    obtain ⟨k,hk1,hk,rfl,rfl⟩:=hrel
    by_cases hlt:k<8
    · obtain ⟨y,hy⟩:∃ y,Hid (d[k]?=some y):=⟨_,Lib.hid (List.getElem?_eq_getElem (by rw [hdl.out];omega))⟩
      have hy8:y<256:=hdo y (List.mem_of_getElem? hy.out)
      have c0:w2.cell? ⟨bt,k,none⟩=some (.int .u8 y):=by rw [BT.cell];simpa using byts_at hy.out
      have hacc:accB (headN d) k≤36028797018963967:=by
        rcases k with _ | k
        · simp [accB]
        · have h:=accB_head d hdo k
          have h2:128*256 ^ k≤128*256 ^ 6:=Nat.mul_le_mul_left _ (Nat.pow_le_pow_right (by omega) (by omega))
          have h3:128*256 ^ 6=36028797018963968:=by decide
          omega
      have hs:Hid ((accB (headN d) k:Int)*256+(y:Int)=((accB (headN d) (k+1):Nat):Int)):=by
        show _=((accB (headN d) k*256+(headN d)[k]?.getD 0:Nat):Int)
        have e:(headN d)[k]?=some y:=by
          unfold headN
          cases k with
          | zero=>omega
          | succ k=>rw [List.getElem?_cons_succ,List.getElem?_drop,Nat.add_comm];exact hy.out
        rw [e];simp
      have hkI:(k:Int)<32:=by omega
      go_wp2_with fail
      exact ⟨⟨k+1,by omega,by omega,by go_num,by rw [←hs.out]⟩,by simp [intOf];omega⟩
    · have hk8:Hid (accB (headN d) k % 1073741789=hashV (sb s) l):=by
        have e:k=8:=by omega
        show _=_
        rw [e]
        unfold hashV hashN
        rw [←hd.out]
      go_wp2_with fail
      go_ret
      exact ⟨ret_int (by rw [←hk8.out];simp),hb2⟩
def set4 (w:World) (b:Nat) (v0 v1 v2 v3:Value):World :=
  (((w.setCell ⟨b,0,none⟩ v0).setCell ⟨b,1,none⟩ v1).setCell ⟨b,2,none⟩ v2).setCell ⟨b,3,none⟩ v3
theorem Blk.set4 {w:World} {b:Nat} {t:TypeId} {u0 u1 u2 u3:Value} (h:Blk w b t #[u0,u1,u2,u3]) (v0 v1 v2 v3:Value):Blk (Proofs.YtgkpomdegomgiaaGreatDoor.set4 w b v0 v1 v2 v3) b t #[v0,v1,v2,v3]:=by
  have:=(((h.set_ 0 v0).set_ 1 v1).set_ 2 v2).set_ 3 v3
  unfold Proofs.YtgkpomdegomgiaaGreatDoor.set4
  simpa using this
theorem bSet4 {a w:World} (h:Below a.heap.size a w) {b:Nat} (hb:a.heap.size≤b) (v0 v1 v2 v3:Value):Below a.heap.size a (set4 w b v0 v1 v2 v3) :=
  bSet (bSet (bSet (bSet h (p:=⟨b,0,none⟩) hb _) (p:=⟨b,1,none⟩) hb _) (p:=⟨b,2,none⟩) hb _) (p:=⟨b,3,none⟩) hb _
theorem Rd.far {w:World} {B sz n b off:Nat} {xs:List Value} (h:Rd w B sz (some ⟨b,off,none⟩) n xs) {p:Addr} (hp:b≠p.block) (u:Value):Rd (w.setCell p u) B sz (some ⟨b,off,none⟩) n xs :=
  ⟨h.1,fun hn=>by
    obtain ⟨b',off',e,hb,hc⟩:=h.2 hn
    injection e with e
    injection e with e1 e2
    subst e1;subst e2
    refine ⟨_,_,rfl,hb,fun j v hj=>?_⟩
    rw [←hc j v hj]
    have:=Below.heap_setCell w p u b hp
    unfold World.cell?
    simp only [this]⟩
theorem Rd.far4 {w:World} {sz n b g off:Nat} {xs:List Value} (h:Rd w w.heap.size sz (some ⟨b,off,none⟩) n xs) (hp:b≠g) (v0 v1 v2 v3:Value):Rd (set4 w g v0 v1 v2 v3) (set4 w g v0 v1 v2 v3).heap.size sz (some ⟨b,off,none⟩) n xs :=
  ((((h.far (p:=⟨g,0,none⟩) hp v0).far (p:=⟨g,1,none⟩) hp v1).far (p:=⟨g,2,none⟩) hp v2).far (p:=⟨g,3,none⟩) hp v3).more (by simp [set4,World.setCell])
theorem opn_loads {w:World} {b:Nat} {o:Opn} (ho:o.ok) (B:Blk w b 95 o.cl.toArray) :
    (Instr.loadAt 43 (.pointer (some ⟨b,4,none⟩))).run Tryz.prog w = .ok (.agg (byts o.salt).toArray) w∧w.cell? ⟨b,0,none⟩=some (.int .i64 o.at_)∧w.cell? ⟨b,1,none⟩=some (.int .i64 o.r0)∧w.cell? ⟨b,2,none⟩=some (.int .i64 o.r1)∧w.cell? ⟨b,3,none⟩=some (.int .i64 o.r2):=by
  refine ⟨load_mid B o.salt ho.2.2.2.2.1 (fun j v hj=>?_),B.cell 0,B.cell 1,B.cell 2,B.cell 3⟩
  simp only [Opn.cl,List.getElem?_toArray]
  rw [List.getElem?_append_right (by simp),List.length_cons,List.length_cons,List.length_cons,List.length_cons,List.length_nil]
  rw [show 4+j - (0+1+1+1+1)=j by omega];exact hj
def Opn.its2 (o:Opn):List It:=[.int o.at_,.int o.r0,.int o.r1,.int o.r2,.text (dgS o.salt)]
theorem Opn.its2_eq (o:Opn):o.its2=o.its.map Nd.it:=rfl
theorem ref_value (o:Opn) (W:World) (ho:o.ok):Calls Tryz.prog 170 #[.agg o.cl.toArray] W (RetV o.its2 W):=by
  have BO:=(Blk.new W 95 o.cl.toArray _ rfl).alloc (.cells #[.int .i64 0,.int .i64 0,.string ⟨#[]⟩,.slice none 0 0] 145)
  have BR:=Blk.new (W.alloc (.cells o.cl.toArray 95)) 145 #[.int .i64 0,.int .i64 0,.string ⟨#[]⟩,.slice none 0 0] (W.heap.size+1) (by simp)
  have hb:=bAl (bAl (bRefl W) (.cells o.cl.toArray 95)) (.cells #[.int .i64 0,.int .i64 0,.string ⟨#[]⟩,.slice none 0 0] 145)
  go_enter Tryz.func170,Tryz.ntmps170
  go_upto_region 1 with fail
  generalize (W.alloc (.cells o.cl.toArray 95)).alloc (.cells #[.int .i64 0,.int .i64 0,.string ⟨#[]⟩,.slice none 0 0] 145)=w2 at *
  have KS:Hid (∀ w',Below w2.heap.size w2 w'→_):=Lib.hid (fun w' h=>opn_loads ho (BO.below h BO.lt))
  have o5:=ho.2.2.2.2.1
  have o6:=ho.2.2.2.2.2
  have q2:=fun w=>ref_vtext o.salt w o5 o6
  unfold textV at q2
  have q1:∀ n w,_:=ref_vnum
  unfold intV at q1
  have q3:∀ A n c w,_:=ref_vlist
  unfold listV at q3
  clear o5 o6
  refine wp_region_schB (f:=20) KS [(0,1),(1,2),(3,1),(4,1),(5,2),(7,1),(8,1),(9,2),(11,1),(12,1),(13,2),(15,1),(16,2),(2,0),(6,0),(10,0),(14,0),(17,0),(18,0),(19,0),(20,3)] ?_
  simp only [pickS,List.getElem?_cons_zero,List.getElem?_cons_succ]
  refine wpSched_t ?_
  refine wpSched_r ?_
  refine wpSched_t ?_
  refine wpSched_t ?_
  refine wpSched_r ?_
  refine wpSched_t ?_
  refine wpSched_t ?_
  refine wpSched_r ?_
  refine wpSched_t ?_
  refine wpSched_t ?_
  refine wpSched_r ?_
  refine wpSched_t ?_
  refine wpSched_r (v:=?v1) (hv:=?h1) ?_;case h1=>(intro w hSw;(first | refine (exec_load rfl rfl hSw).trans ?_ | refine (exec_load rfl rfl hSw.1).trans ?_ | refine (exec_load rfl rfl hSw.2.1).trans ?_ | refine (exec_load rfl rfl hSw.2.2.1).trans ?_ | refine (exec_load rfl rfl hSw.2).trans ?_ | refine (exec_load rfl rfl hSw.2.2).trans ?_);with_reducible rfl)
  refine wpSched_force (fun K hK=>?_)
  go_simp;(first | (go_at_call 179;(with_reducible refine (q1 _ _).mono ?_);rintro e w9 ⟨rfl,b9⟩;have B7:Below w2.heap.size w2 w9:=bCall (by repeat (first | with_reducible exact B7 | with_reducible exact bRefl _ | with_reducible refine bDr ?_ | with_reducible refine bAl ?_ _)) b9) | (go_at_call 180;(with_reducible refine (q2 _).mono ?_);rintro e w9 ⟨rfl,b9⟩;have B7:Below w2.heap.size w2 w9:=bCall (by repeat (first | with_reducible exact B7 | with_reducible exact bRefl _ | with_reducible refine bDr ?_ | with_reducible refine bAl ?_ _)) b9) | (go_at_call 178;(with_reducible refine (q3 _ _ _ _).mono ?_);rintro e w8 ⟨rfl,b8⟩;have HR:Rd w8 w8.heap.size 4 (some ⟨w9.heap.size,0,none⟩) 5 (o.its2.flatMap It.cells):=((Rd.new w9 (o.its2.flatMap It.cells) 145 4 5 _ rfl rfl).below b8).more b8.size;have B8:Below w2.heap.size w2 w8:=bCall (by repeat (first | with_reducible exact B7 | with_reducible exact bRefl _ | with_reducible refine bDr ?_ | with_reducible refine bAl ?_ _)) b8) | skip)
  refine shut_go hK KS ?_
  clear hK K
  refine wpSched_force (fun K hK=>?_)
  go_simp;(first | (go_at_call 179;(with_reducible refine (q1 _ _).mono ?_);rintro e w9 ⟨rfl,b9⟩;have B7:Below w2.heap.size w2 w9:=bCall (by repeat (first | with_reducible exact B7 | with_reducible exact bRefl _ | with_reducible refine bDr ?_ | with_reducible refine bAl ?_ _)) b9) | (go_at_call 180;(with_reducible refine (q2 _).mono ?_);rintro e w9 ⟨rfl,b9⟩;have B7:Below w2.heap.size w2 w9:=bCall (by repeat (first | with_reducible exact B7 | with_reducible exact bRefl _ | with_reducible refine bDr ?_ | with_reducible refine bAl ?_ _)) b9) | (go_at_call 178;(with_reducible refine (q3 _ _ _ _).mono ?_);rintro e w8 ⟨rfl,b8⟩;have HR:Rd w8 w8.heap.size 4 (some ⟨w9.heap.size,0,none⟩) 5 (o.its2.flatMap It.cells):=((Rd.new w9 (o.its2.flatMap It.cells) 145 4 5 _ rfl rfl).below b8).more b8.size;have B8:Below w2.heap.size w2 w8:=bCall (by repeat (first | with_reducible exact B7 | with_reducible exact bRefl _ | with_reducible refine bDr ?_ | with_reducible refine bAl ?_ _)) b8) | skip)
  refine shut_go hK KS ?_
  clear hK K
  refine wpSched_force (fun K hK=>?_)
  go_simp;(first | (go_at_call 179;(with_reducible refine (q1 _ _).mono ?_);rintro e w9 ⟨rfl,b9⟩;have B7:Below w2.heap.size w2 w9:=bCall (by repeat (first | with_reducible exact B7 | with_reducible exact bRefl _ | with_reducible refine bDr ?_ | with_reducible refine bAl ?_ _)) b9) | (go_at_call 180;(with_reducible refine (q2 _).mono ?_);rintro e w9 ⟨rfl,b9⟩;have B7:Below w2.heap.size w2 w9:=bCall (by repeat (first | with_reducible exact B7 | with_reducible exact bRefl _ | with_reducible refine bDr ?_ | with_reducible refine bAl ?_ _)) b9) | (go_at_call 178;(with_reducible refine (q3 _ _ _ _).mono ?_);rintro e w8 ⟨rfl,b8⟩;have HR:Rd w8 w8.heap.size 4 (some ⟨w9.heap.size,0,none⟩) 5 (o.its2.flatMap It.cells):=((Rd.new w9 (o.its2.flatMap It.cells) 145 4 5 _ rfl rfl).below b8).more b8.size;have B8:Below w2.heap.size w2 w8:=bCall (by repeat (first | with_reducible exact B7 | with_reducible exact bRefl _ | with_reducible refine bDr ?_ | with_reducible refine bAl ?_ _)) b8) | skip)
  refine shut_go hK KS ?_
  clear hK K
  refine wpSched_force (fun K hK=>?_)
  go_simp;(first | (go_at_call 179;(with_reducible refine (q1 _ _).mono ?_);rintro e w9 ⟨rfl,b9⟩;have B7:Below w2.heap.size w2 w9:=bCall (by repeat (first | with_reducible exact B7 | with_reducible exact bRefl _ | with_reducible refine bDr ?_ | with_reducible refine bAl ?_ _)) b9) | (go_at_call 180;(with_reducible refine (q2 _).mono ?_);rintro e w9 ⟨rfl,b9⟩;have B7:Below w2.heap.size w2 w9:=bCall (by repeat (first | with_reducible exact B7 | with_reducible exact bRefl _ | with_reducible refine bDr ?_ | with_reducible refine bAl ?_ _)) b9) | (go_at_call 178;(with_reducible refine (q3 _ _ _ _).mono ?_);rintro e w8 ⟨rfl,b8⟩;have HR:Rd w8 w8.heap.size 4 (some ⟨w9.heap.size,0,none⟩) 5 (o.its2.flatMap It.cells):=((Rd.new w9 (o.its2.flatMap It.cells) 145 4 5 _ rfl rfl).below b8).more b8.size;have B8:Below w2.heap.size w2 w8:=bCall (by repeat (first | with_reducible exact B7 | with_reducible exact bRefl _ | with_reducible refine bDr ?_ | with_reducible refine bAl ?_ _)) b8) | skip)
  refine shut_go hK KS ?_
  clear hK K
  refine wpSched_force (fun K hK=>?_)
  go_simp;(first | (go_at_call 179;(with_reducible refine (q1 _ _).mono ?_);rintro e w9 ⟨rfl,b9⟩;have B7:Below w2.heap.size w2 w9:=bCall (by repeat (first | with_reducible exact B7 | with_reducible exact bRefl _ | with_reducible refine bDr ?_ | with_reducible refine bAl ?_ _)) b9) | (go_at_call 180;(with_reducible refine (q2 _).mono ?_);rintro e w9 ⟨rfl,b9⟩;have B7:Below w2.heap.size w2 w9:=bCall (by repeat (first | with_reducible exact B7 | with_reducible exact bRefl _ | with_reducible refine bDr ?_ | with_reducible refine bAl ?_ _)) b9) | (go_at_call 178;(with_reducible refine (q3 _ _ _ _).mono ?_);rintro e w8 ⟨rfl,b8⟩;have HR:Rd w8 w8.heap.size 4 (some ⟨w9.heap.size,0,none⟩) 5 (o.its2.flatMap It.cells):=((Rd.new w9 (o.its2.flatMap It.cells) 145 4 5 _ rfl rfl).below b8).more b8.size;have B8:Below w2.heap.size w2 w8:=bCall (by repeat (first | with_reducible exact B7 | with_reducible exact bRefl _ | with_reducible refine bDr ?_ | with_reducible refine bAl ?_ _)) b8) | skip)
  refine shut_go hK KS ?_
  clear hK K
  refine wpSched_force (fun K hK=>?_)
  go_simp;(first | (go_at_call 179;(with_reducible refine (q1 _ _).mono ?_);rintro e w9 ⟨rfl,b9⟩;have B7:Below w2.heap.size w2 w9:=bCall (by repeat (first | with_reducible exact B7 | with_reducible exact bRefl _ | with_reducible refine bDr ?_ | with_reducible refine bAl ?_ _)) b9) | (go_at_call 180;(with_reducible refine (q2 _).mono ?_);rintro e w9 ⟨rfl,b9⟩;have B7:Below w2.heap.size w2 w9:=bCall (by repeat (first | with_reducible exact B7 | with_reducible exact bRefl _ | with_reducible refine bDr ?_ | with_reducible refine bAl ?_ _)) b9) | (go_at_call 178;(with_reducible refine (q3 _ _ _ _).mono ?_);rintro e w8 ⟨rfl,b8⟩;have HR:Rd w8 w8.heap.size 4 (some ⟨w9.heap.size,0,none⟩) 5 (o.its2.flatMap It.cells):=((Rd.new w9 (o.its2.flatMap It.cells) 145 4 5 _ rfl rfl).below b8).more b8.size;have B8:Below w2.heap.size w2 w8:=bCall (by repeat (first | with_reducible exact B7 | with_reducible exact bRefl _ | with_reducible refine bDr ?_ | with_reducible refine bAl ?_ _)) b8) | skip)
  refine shut_go hK KS ?_
  clear hK K
  refine wpSched_force (fun K hK=>?_)
  go_simp;(first | (go_at_call 179;(with_reducible refine (q1 _ _).mono ?_);rintro e w9 ⟨rfl,b9⟩;have B7:Below w2.heap.size w2 w9:=bCall (by repeat (first | with_reducible exact B7 | with_reducible exact bRefl _ | with_reducible refine bDr ?_ | with_reducible refine bAl ?_ _)) b9) | (go_at_call 180;(with_reducible refine (q2 _).mono ?_);rintro e w9 ⟨rfl,b9⟩;have B7:Below w2.heap.size w2 w9:=bCall (by repeat (first | with_reducible exact B7 | with_reducible exact bRefl _ | with_reducible refine bDr ?_ | with_reducible refine bAl ?_ _)) b9) | (go_at_call 178;(with_reducible refine (q3 _ _ _ _).mono ?_);rintro e w8 ⟨rfl,b8⟩;have HR:Rd w8 w8.heap.size 4 (some ⟨w9.heap.size,0,none⟩) 5 (o.its2.flatMap It.cells):=((Rd.new w9 (o.its2.flatMap It.cells) 145 4 5 _ rfl rfl).below b8).more b8.size;have B8:Below w2.heap.size w2 w8:=bCall (by repeat (first | with_reducible exact B7 | with_reducible exact bRefl _ | with_reducible refine bDr ?_ | with_reducible refine bAl ?_ _)) b8) | skip)
  refine shut_go hK KS ?_
  clear hK K
  refine wpSched_last ?_
  first | simp only [List.map_nil] | simp only [List.map_cons,List.map_nil]
  have BR2:=BR.below B8 BR.lt
  have hb2:=bCall hb B8
  have hne:w9.heap.size≠W.heap.size+1:=by have:=BR.lt;have:=B7.size;omega
  have z0:=BR2.frozen 0
  have z1:=BR2.frozen 1
  have z2:=BR2.frozen 2
  have z3:=BR2.frozen 3
  obtain ⟨y0,y1,y2,y3⟩:=box_cells BR2
  generalize w9.heap.size=g9 at *
  clear KS B7 B8 BR BO hb q1 q2 q3
  have BN:=BR2.set4 (.int .i64 3) (.int .i64 0) (.string ⟨#[]⟩) (.slice (some ⟨g9,0,none⟩) 5 5)
  have HN:=HR.far4 hne (.int .i64 3) (.int .i64 0) (.string ⟨#[]⟩) (.slice (some ⟨g9,0,none⟩) 5 5)
  have hbN:=bSet4 hb2 (show W.heap.size≤W.heap.size+1 by omega) (.int .i64 3) (.int .i64 0) (.string ⟨#[]⟩) (.slice (some ⟨g9,0,none⟩) 5 5)
  go_wp2_with fail
  refine NoPanic.normal ?_
  go_wp2_with fail
  change bodyPost _ _ _ _ _ (set4 w8 (W.heap.size+1) (.int .i64 3) (.int .i64 0) (.string ⟨#[]⟩) (.slice (some ⟨g9,0,none⟩) 5 5))
  generalize set4 w8 (W.heap.size+1) (.int .i64 3) (.int .i64 0) (.string ⟨#[]⟩) (.slice (some ⟨g9,0,none⟩) 5 5)=w7 at *
  obtain ⟨r0,r1,r2,r3⟩:=box_cells BN
  exact bodyPost_ret (v:=listV (some ⟨g9,0,none⟩) 5 5) (by simp [results,Tryz.results170,go_sem,listV,r0,r1,r2,r3]) rfl ⟨_,_,rfl,hbN,HN⟩
theorem ref_vtagged (s:ByteArray) (A:Option Addr) (n c:Nat) (l:List It) (W:World) (hA:Rd W W.heap.size 4 A n (l.flatMap It.cells)) (hok:∀ x∈l,x.ok) (hn:n≤1000) (hs:s.size≤1000000) :
    Calls Tryz.prog 169 #[.string s,listV A n c] W (Ret (dig (taggedN (sb s) (encN l))) W):=by
  have hln:l.length=n:=by have:=hA.1;rw [flat_len It.cells_length] at this;omega
  obtain ⟨R0,hR0⟩:∃ R0,Hid (R0=taggedN (sb s) (encN l)):=⟨_,Lib.hid rfl⟩
  rw [←hR0.out]
  have hA2:=(((hA.alloc (Nat.le_refl _) (.cells #[.int .i64 3,.int .i64 0,.string ⟨#[]⟩,.slice A n c] 145)).more (B':=(W.alloc (.cells #[.int .i64 3,.int .i64 0,.string ⟨#[]⟩,.slice A n c] 145)).heap.size) (by simp)).alloc (Nat.le_refl _) (.cells (byts (zerosN 32)).toArray 43))
  have BX:=(Blk.new W 145 #[.int .i64 3,.int .i64 0,.string ⟨#[]⟩,.slice A n c] _ rfl).alloc (.cells (byts (zerosN 32)).toArray 43)
  have BD:=Blk.new (W.alloc (.cells #[.int .i64 3,.int .i64 0,.string ⟨#[]⟩,.slice A n c] 145)) 43 (byts (zerosN 32)).toArray (W.heap.size+1) (by simp)
  have hb:=bAl (bAl (bRefl W) (.cells #[.int .i64 3,.int .i64 0,.string ⟨#[]⟩,.slice A n c] 145)) (.cells (byts (zerosN 32)).toArray 43)
  have hel:=encN_len hok (by omega)
  have hoE:=okB_encN l
  unfold listV
  go_enter Tryz.func169,Tryz.ntmps169
  go_upto_region 1 with fail
  change Code.wp _ _ _ _ ((W.alloc (.cells #[.int .i64 3,.int .i64 0,.string ⟨#[]⟩,.slice A n c] 145)).alloc (.cells (byts (zerosN 32)).toArray 43))
  generalize (W.alloc (.cells #[.int .i64 3,.int .i64 0,.string ⟨#[]⟩,.slice A n c] 145)).alloc (.cells (byts (zerosN 32)).toArray 43)=w1 at *
  have q:=ref_encode A n c l w1 (hA2.more (by have:=BD.lt;simp;omega)) hok hn
  unfold listV at q
  obtain ⟨m0,m1,m2,m3⟩:=box_cells BX
  obtain ⟨E,hE⟩:∃ E,Hid (E=encN l):=⟨_,Lib.hid rfl⟩
  rw [←hE.out] at q hel hoE hR0
  clear hln
  go_wp2_with fail
  (with_reducible refine q.mono ?_)
  rintro e w2 ⟨v,rfl,b2,A2,c2,rfl,hR,_,_,hnil⟩
  have hb2:=bCall hb b2
  have BD2:=BD.below b2 BD.lt
  have q2:=ref_tagged s A2 E.length c2 E w2 hR hnil hoE hs (Nat.le_trans hel (by decide))
  clear q hb b2 BD BX m0 m1 m2 m3
  go_wp2_with fail
  (with_reducible refine q2.mono ?_)
  rintro e w3 ⟨rfl,b3⟩
  have hb3:=bCall hb2 b3
  have BD3:=BD2.below b3 BD2.lt
  clear q2
  unfold dig
  have hTl:=taggedN_len (sb s) E
  generalize taggedN (sb s) E=T at *
  have HT:=Lib.hid hTl
  clear hTl
  dsimp only
  (refine ‹∀ (a:Act) (w:World),wpList _ _ _ _ a w→_› _ _ ?_)
  refine wpList_store_row rfl 43 (.tmp 4) (.tmp 14) rfl (W.heap.size+1) (byts T).toArray rfl rfl 43 _ BD3 (by rw [List.size_toArray,byts_length,HT.out];exact dig_info) (by rw [List.size_toArray,List.size_toArray,byts_length,byts_length,HT.out];rfl) (byts_one _) ?_
  have hb9:=below_setRow hb3 (show W.heap.size≤W.heap.size+1 by omega) (byts T).toArray
  have BD9:Blk (w3.setRow (W.heap.size+1) (byts T).toArray) (W.heap.size+1) 43 (byts T).toArray:=setRow_heap w3 (W.heap.size+1) _ _ 43 _ BD3
  go_wp2_with fail
  exact bodyPost_ret (v := .agg (byts T).toArray) (results_cell_row rfl _ _ (W.heap.size+1) 43 _ (0,0) _ rfl BD9 dig_under rfl (by rw [List.size_toArray,byts_length,HT.out];exact dig_info)) rfl ⟨by rw [hR0.out];rfl,hb9⟩
theorem Opn.cl_length' {o:Opn} (h:o.ok):o.cl.length=36:=by
  obtain ⟨_,_,_,_,h,_⟩:=h
  simp [Opn.cl,byts_length,h]
theorem opn_info':(Tryz.prog.info? 95).map (·.size)=some 36:=by kernel_rfl
theorem ref_commit0 (o:Opn) (W:World) (ho:o.ok) :
    Calls Tryz.prog 158 #[.int .i64 0,.agg o.cl.toArray] W (Ret (dig (taggedN (sb ⟨#[108,101,102,116]⟩) (encN (o.its.map Nd.it)))) W):=by
  obtain ⟨R0,hR0⟩:∃ R0,Hid (R0=taggedN (sb ⟨#[108,101,102,116]⟩) (encN o.its2)):=⟨_,Lib.hid rfl⟩
  rw [←o.its2_eq,←hR0.out]
  have hits:∀ x∈o.its2,x.ok:=by
    obtain ⟨o1,o2,o3,o4,o5,o6⟩:=ho
    intro x hx
    simp only [Opn.its2,List.mem_cons,List.not_mem_nil,or_false] at hx
    rcases hx with rfl | rfl | rfl | rfl | rfl
    · exact o1
    · exact o2
    · exact o3
    · exact o4
    · exact Nd.it_ok (x := .dig o.salt) ⟨o5,o6⟩
  have hl5:o.its2.length≤1000:=by simp [Opn.its2]
  have BO:=(Blk.new W 95 o.cl.toArray _ rfl).alloc (.cells (byts (zerosN 32)).toArray 43)
  have BD:=Blk.new (W.alloc (.cells o.cl.toArray 95)) 43 (byts (zerosN 32)).toArray (W.heap.size+1) (by simp)
  have hb:=bAl (bAl (bRefl W) (.cells o.cl.toArray 95)) (.cells (byts (zerosN 32)).toArray 43)
  go_enter Tryz.func158,Tryz.ntmps158
  go_upto_region 1 with fail
  change Code.wp _ _ _ _ ((W.alloc (.cells o.cl.toArray 95)).alloc (.cells (byts (zerosN 32)).toArray 43))
  generalize (W.alloc (.cells o.cl.toArray 95)).alloc (.cells (byts (zerosN 32)).toArray 43)=w1 at *
  have LO:(Instr.loadAt 95 (.pointer (some ⟨W.heap.size,0,none⟩))).run Tryz.prog w1 = .ok (.agg o.cl.toArray) w1 :=
    run_loadAt_mid _ W.heap.size 0 95 o.cl _ (fun j v hj=>by rw [Nat.zero_add,BO.cell];simpa using hj) Tryz.underlying95 rfl (by rw [Opn.cl_length' ho];exact opn_info')
  have q:=ref_value o w1 ho
  go_upto_region 2 with fail
  apply wp_region_lit
  refine wpList_loadG (by rfl) (by rfl) (by rfl) LO ?_
  simp only [Act.put,List.setIfInBounds_toArray,List.set_cons_zero,List.set_cons_succ]
  go_wp2_with fail
  (with_reducible refine q.mono ?_)
  rintro e w2 ⟨A2,c2,rfl,b2,hR⟩
  have hb2:=bCall hb b2
  have BD2:=BD.below b2 BD.lt
  have q2:=ref_vtagged ⟨#[108,101,102,116]⟩ A2 o.its2.length c2 o.its2 w2 hR hits hl5 (by decide)
  rw [←hR0.out] at q2
  unfold listV at q2 ⊢
  have hTl:R0.length=32:=by rw [hR0.out,taggedN_len]
  clear q hR0 LO hb b2 BD BO
  go_wp2_with fail
  (with_reducible refine q2.mono ?_)
  rintro e w3 ⟨rfl,b3⟩
  have hb3:=bCall hb2 b3
  have BD3:=BD2.below b3 BD2.lt
  have HT:=Lib.hid hTl
  clear q2 hTl hb2 b3 BD2
  unfold dig
  dsimp only
  (refine ‹∀ (a:Act) (w:World),wpList _ _ _ _ a w→_› _ _ ?_)
  refine wpList_store_row rfl 43 (.tmp 4) (.tmp 9) rfl (W.heap.size+1) (byts R0).toArray rfl rfl 43 _ BD3 (by rw [List.size_toArray,byts_length,HT.out];exact dig_info) (by rw [List.size_toArray,List.size_toArray,byts_length,byts_length,HT.out];rfl) (byts_one _) ?_
  have hb9:=below_setRow hb3 (show W.heap.size≤W.heap.size+1 by omega) (byts R0).toArray
  have BD9:Blk (w3.setRow (W.heap.size+1) (byts R0).toArray) (W.heap.size+1) 43 (byts R0).toArray:=setRow_heap w3 (W.heap.size+1) _ _ 43 _ BD3
  go_wp2_with fail
  exact bodyPost_ret (v := .agg (byts R0).toArray) (results_cell_row rfl _ _ (W.heap.size+1) 43 _ (0,0) _ rfl BD9 dig_under rfl (by rw [List.size_toArray,byts_length,HT.out];exact dig_info)) rfl ⟨rfl,hb9⟩
theorem ref_commit1 (o:Opn) (W:World) (ho:o.ok) :
    Calls Tryz.prog 158 #[.int .i64 1,.agg o.cl.toArray] W (Ret (dig (taggedN (sb ⟨#[114,105,103,104,116]⟩) (encN (o.its.map Nd.it)))) W):=by
  obtain ⟨R0,hR0⟩:∃ R0,Hid (R0=taggedN (sb ⟨#[114,105,103,104,116]⟩) (encN o.its2)):=⟨_,Lib.hid rfl⟩
  rw [←o.its2_eq,←hR0.out]
  have hits:∀ x∈o.its2,x.ok:=by
    obtain ⟨o1,o2,o3,o4,o5,o6⟩:=ho
    intro x hx
    simp only [Opn.its2,List.mem_cons,List.not_mem_nil,or_false] at hx
    rcases hx with rfl | rfl | rfl | rfl | rfl
    · exact o1
    · exact o2
    · exact o3
    · exact o4
    · exact Nd.it_ok (x := .dig o.salt) ⟨o5,o6⟩
  have hl5:o.its2.length≤1000:=by simp [Opn.its2]
  have BO:=(Blk.new W 95 o.cl.toArray _ rfl).alloc (.cells (byts (zerosN 32)).toArray 43)
  have BD:=Blk.new (W.alloc (.cells o.cl.toArray 95)) 43 (byts (zerosN 32)).toArray (W.heap.size+1) (by simp)
  have hb:=bAl (bAl (bRefl W) (.cells o.cl.toArray 95)) (.cells (byts (zerosN 32)).toArray 43)
  go_enter Tryz.func158,Tryz.ntmps158
  go_upto_region 1 with fail
  change Code.wp _ _ _ _ ((W.alloc (.cells o.cl.toArray 95)).alloc (.cells (byts (zerosN 32)).toArray 43))
  generalize (W.alloc (.cells o.cl.toArray 95)).alloc (.cells (byts (zerosN 32)).toArray 43)=w1 at *
  have LO:(Instr.loadAt 95 (.pointer (some ⟨W.heap.size,0,none⟩))).run Tryz.prog w1 = .ok (.agg o.cl.toArray) w1 :=
    run_loadAt_mid _ W.heap.size 0 95 o.cl _ (fun j v hj=>by rw [Nat.zero_add,BO.cell];simpa using hj) Tryz.underlying95 rfl (by rw [Opn.cl_length' ho];exact opn_info')
  have q:=ref_value o w1 ho
  go_upto_region 3 with fail
  apply wp_region_lit
  refine wpList_loadG (by rfl) (by rfl) (by rfl) LO ?_
  simp only [Act.put,List.setIfInBounds_toArray,List.set_cons_zero,List.set_cons_succ]
  go_wp2_with fail
  (with_reducible refine q.mono ?_)
  rintro e w2 ⟨A2,c2,rfl,b2,hR⟩
  have hb2:=bCall hb b2
  have BD2:=BD.below b2 BD.lt
  have q2:=ref_vtagged ⟨#[114,105,103,104,116]⟩ A2 o.its2.length c2 o.its2 w2 hR hits hl5 (by decide)
  rw [←hR0.out] at q2
  unfold listV at q2 ⊢
  have hTl:R0.length=32:=by rw [hR0.out,taggedN_len]
  clear q hR0 LO hb b2 BD BO
  go_wp2_with fail
  (with_reducible refine q2.mono ?_)
  rintro e w3 ⟨rfl,b3⟩
  have hb3:=bCall hb2 b3
  have BD3:=BD2.below b3 BD2.lt
  have HT:=Lib.hid hTl
  clear q2 hTl hb2 b3 BD2
  unfold dig
  dsimp only
  (refine ‹∀ (a:Act) (w:World),wpList _ _ _ _ a w→_› _ _ ?_)
  refine wpList_store_row rfl 43 (.tmp 4) (.tmp 12) rfl (W.heap.size+1) (byts R0).toArray rfl rfl 43 _ BD3 (by rw [List.size_toArray,byts_length,HT.out];exact dig_info) (by rw [List.size_toArray,List.size_toArray,byts_length,byts_length,HT.out];rfl) (byts_one _) ?_
  have hb9:=below_setRow hb3 (show W.heap.size≤W.heap.size+1 by omega) (byts R0).toArray
  have BD9:Blk (w3.setRow (W.heap.size+1) (byts R0).toArray) (W.heap.size+1) 43 (byts R0).toArray:=setRow_heap w3 (W.heap.size+1) _ _ 43 _ BD3
  go_wp2_with fail
  exact bodyPost_ret (v := .agg (byts R0).toArray) (results_cell_row rfl _ _ (W.heap.size+1) 43 _ (0,0) _ rfl BD9 dig_under rfl (by rw [List.size_toArray,byts_length,HT.out];exact dig_info)) rfl ⟨rfl,hb9⟩
theorem tmod_to_emod (n:Int):n % 1073741789=if n.tmod 1073741789<0 then n.tmod 1073741789+1073741789 else n.tmod 1073741789:=by
  have h1:=tmod_q n
  have h2:=tmod_emod n
  generalize n.tmod 1073741789=t at *
  split <;> omega
theorem ref_exponent (n:Int) (W:World):Calls Tryz.prog 147 #[.int .i64 n] W (Same (.int .i64 (n % 1073741789)) W):=by
  have h0:=tmod_to_emod n
  have h1:=tmod_q n
  obtain ⟨v,hv⟩:∃ v,v=n % 1073741789:=⟨_,rfl⟩
  rw [←hv] at h0 ⊢
  clear hv
  go_enter Tryz.func147,Tryz.ntmps147
  by_cases hn:n.tmod 1073741789<0
  · rw [if_pos hn] at h0
    have Hv:=Lib.hid h0
    have hw:IntKind.i64.wrap (n.tmod 1073741789+1073741789)=n.tmod 1073741789+1073741789:=by rw [IntKind.wrap_i64];omega
    clear h0 h1
    go_wp2_with fail
    go_ret
    exact ⟨by rw [Hv.out];rfl,rfl⟩
  · rw [if_neg hn] at h0
    have Hv:=Lib.hid h0
    clear h0 h1
    go_wp2_with fail
    go_ret
    exact ⟨by rw [Hv.out];rfl,rfl⟩
theorem ref_pow (a n:Int) (W:World):Calls Tryz.prog 122 #[.int .i64 a,.int .i64 n] W (Same (.tuple #[.int .i64 (powV a n),.int .i64 (powE a)]) W):=by
  have q:=ref_valid a W
  have q2:=ref_exponent n W
  obtain ⟨v,hv⟩:∃ v,v=powV a n:=⟨_,rfl⟩
  obtain ⟨e,he⟩:∃ e,e=powE a:=⟨_,rfl⟩
  rw [←hv,←he]
  cases hb:validB a
  · have hx:Hid (v=0∧e=90):=Lib.hid ⟨by rw [hv];unfold powV;rw [hb];rfl,by rw [he];unfold powE;rw [hb];rfl⟩
    rw [hb] at q
    clear hv he hb
    go_enter Tryz.func122,Tryz.ntmps122
    go_wp2_with fail
    (with_reducible refine q.mono ?_)
    rintro r w' ⟨rfl,rfl⟩
    go_wp2_with fail
    go_ret2
    exact ⟨ret_ii hx.out.1.symm hx.out.2.symm,rfl⟩
  · have hr:=validB_rng hb
    have hx:Hid (v=((powP a.toNat (expN n):Nat):Int)∧e=0):=Lib.hid ⟨by rw [hv];unfold powV;rw [if_pos hb],by rw [he];unfold powE;rw [if_pos hb]⟩
    have hn:((expN n:Nat):Int)=n % 1073741789:=by unfold expN;omega
    have q3:=ref_power a.toNat (expN n) W (by omega) (by have:=expN_lt n;omega)
    rw [show ((a.toNat:Nat):Int)=a by omega,hn] at q3
    rw [hb] at q
    generalize ((powP a.toNat (expN n):Nat):Int)=u at *
    generalize n % 1073741789=m at *
    clear hv he hb hn hr
    go_enter Tryz.func122,Tryz.ntmps122
    go_wp2_with fail
    (with_reducible refine q.mono ?_)
    rintro r w' ⟨rfl,rfl⟩
    go_wp2_with fail
    (with_reducible refine q2.mono ?_)
    rintro r w' ⟨rfl,rfl⟩
    go_wp2_with fail
    (with_reducible refine q3.mono ?_)
    rintro r w' ⟨rfl,rfl⟩
    go_wp2_with fail
    go_ret2
    exact ⟨ret_ii hx.out.1.symm hx.out.2.symm,rfl⟩
theorem ref_mul (a b:Int) (W:World):Calls Tryz.prog 123 #[.int .i64 a,.int .i64 b] W (Same (.tuple #[.int .i64 (mulV a b),.int .i64 (mulE a b)]) W):=by
  have q1:=ref_valid a W
  have q2:=ref_valid b W
  obtain ⟨v,hv⟩:∃ v,v=mulV a b:=⟨_,rfl⟩
  obtain ⟨e,he⟩:∃ e,e=mulE a b:=⟨_,rfl⟩
  rw [←hv,←he]
  cases ha:validB a
  · have hx:Hid (v=0∧e=90):=Lib.hid ⟨by rw [hv];exact (mulV_no1 (by rw [ha];simp)).1,by rw [he];exact (mulV_no1 (by rw [ha];simp)).2⟩
    rw [ha] at q1
    clear hv he ha
    go_enter Tryz.func123,Tryz.ntmps123
    go_wp2_with fail
    (with_reducible refine q1.mono ?_)
    rintro r w' ⟨rfl,rfl⟩
    go_wp2_with fail
    go_ret2
    exact ⟨ret_ii hx.out.1.symm hx.out.2.symm,rfl⟩
  cases hb:validB b
  · have hx:Hid (v=0∧e=90):=Lib.hid ⟨by rw [hv];exact (mulV_no2 (by rw [hb];simp)).1,by rw [he];exact (mulV_no2 (by rw [hb];simp)).2⟩
    rw [ha] at q1
    rw [hb] at q2
    clear hv he ha hb
    go_enter Tryz.func123,Tryz.ntmps123
    go_wp2_with fail
    (with_reducible refine q1.mono ?_)
    rintro r w' ⟨rfl,rfl⟩
    go_wp2_with fail
    (with_reducible refine q2.mono ?_)
    rintro r w' ⟨rfl,rfl⟩
    go_wp2_with fail
    go_ret2
    exact ⟨ret_ii hx.out.1.symm hx.out.2.symm,rfl⟩
  · have r1:=validB_rng ha
    have r2:=validB_rng hb
    have hm:=mul_rng (a:=a) (b:=b) (by omega) (by omega) (by omega) (by omega)
    have hx:Hid (v=a*b % 2147483579∧e=0):=Lib.hid ⟨by rw [hv];exact (mulV_yes ha hb).1,by rw [he];exact (mulV_yes ha hb).2⟩
    have hw:IntKind.i64.wrap (a*b)=a*b:=by rw [IntKind.wrap_i64];omega
    have ht:(a*b).tmod 2147483579=a*b % 2147483579:=Int.tmod_eq_emod_of_nonneg hm.1
    have hw2:IntKind.i64.wrap (a*b % 2147483579)=a*b % 2147483579:=by rw [IntKind.wrap_i64];omega
    rw [ha] at q1
    rw [hb] at q2
    clear hv he ha hb r1 r2
    go_enter Tryz.func123,Tryz.ntmps123
    go_wp2_with fail
    (with_reducible refine q1.mono ?_)
    rintro r w' ⟨rfl,rfl⟩
    go_wp2_with fail
    (with_reducible refine q2.mono ?_)
    rintro r w' ⟨rfl,rfl⟩
    go_wp2_with fail
    go_ret2
    exact ⟨ret_ii hx.out.1.symm hx.out.2.symm,rfl⟩
theorem ref_element (n:Int) (W:World):Calls Tryz.prog 95 #[.int .i64 n] W (Same (.tuple #[.int .i64 (elemV n),.int .i64 (elemE n)]) W):=by
  have q:=ref_valid n W
  obtain ⟨v,hv⟩:∃ v,v=elemV n:=⟨_,rfl⟩
  obtain ⟨e,he⟩:∃ e,e=elemE n:=⟨_,rfl⟩
  rw [←hv,←he]
  unfold elemV at hv
  unfold elemE at he
  by_cases h1:n<1
  · rw [if_neg (by omega)] at hv he
    have hx:=Lib.hid (And.intro hv he)
    clear hv he
    go_enter Tryz.func95,Tryz.ntmps95
    go_wp2_with fail
    go_ret2
    exact ⟨ret_ii hx.out.1.symm hx.out.2.symm,rfl⟩
  by_cases h2:(1073741789:Int)<n
  · rw [if_neg (by omega)] at hv he
    have hx:=Lib.hid (And.intro hv he)
    clear hv he
    go_enter Tryz.func95,Tryz.ntmps95
    go_wp2_with fail
    go_ret2
    exact ⟨ret_ii hx.out.1.symm hx.out.2.symm,rfl⟩
  rw [if_pos (by omega)] at hv he
  cases hb:validB n
  · rw [hb,if_neg (by simp)] at hv
    have hx:=Lib.hid (And.intro hv he)
    have hw:IntKind.i64.wrap (2147483579 - n)=2147483579 - n:=by rw [IntKind.wrap_i64];omega
    rw [hb] at q
    clear hv he hb
    go_enter Tryz.func95,Tryz.ntmps95
    go_wp2_with fail
    (with_reducible refine q.mono ?_)
    rintro r w' ⟨rfl,rfl⟩
    go_wp2_with fail
    go_ret2
    exact ⟨ret_ii hx.out.1.symm hx.out.2.symm,rfl⟩
  · rw [hb,if_pos rfl] at hv
    have hx:=Lib.hid (And.intro hv he)
    rw [hb] at q
    clear hv he hb
    go_enter Tryz.func95,Tryz.ntmps95
    go_wp2_with fail
    (with_reducible refine q.mono ?_)
    rintro r w' ⟨rfl,rfl⟩
    go_wp2_with fail
    go_ret2
    exact ⟨ret_ii hx.out.1.symm hx.out.2.symm,rfl⟩
theorem ref_pw (a n:Int) (W:World):Calls Tryz.prog 96 #[.int .i64 a,.int .i64 n] W (Same (.int .i64 (powV a n)) W):=by
  have q:=ref_pow a n W
  generalize powV a n=v at *
  generalize powE a=e at *
  go_enter Tryz.func96,Tryz.ntmps96
  go_wp2_with fail
  (with_reducible refine q.mono ?_)
  rintro r w' ⟨rfl,rfl⟩
  go_wp2_with fail
  go_ret
  exact ⟨rfl,rfl⟩
theorem ref_times (a b:Int) (W:World) (ha:inP a) (hb:inP b):Calls Tryz.prog 97 #[.int .i64 a,.int .i64 b] W (Same (.int .i64 (a*b % 2147483579)) W):=by
  obtain ⟨a0,a1⟩:=ha
  obtain ⟨b0,b1⟩:=hb
  have hm:=mul_rng (a:=a) (b:=b) a0 b0 a1 b1
  have hw:IntKind.i64.wrap (a*b)=a*b:=by rw [IntKind.wrap_i64];omega
  have ht:(a*b).tmod 2147483579=a*b % 2147483579:=Int.tmod_eq_emod_of_nonneg hm.1
  have hw2:IntKind.i64.wrap (a*b % 2147483579)=a*b % 2147483579:=by rw [IntKind.wrap_i64];omega
  go_enter Tryz.func97,Tryz.ntmps97
  go_wp2_with fail
  go_ret
  exact ⟨rfl,rfl⟩
theorem ref_formed (A:Option Addr) (n c:Nat) (l:List Ltr) (W:World) (hA:Rd W W.heap.size 6 A n (l.flatMap Ltr.cl)) (hn:n≤9223372036854775807) :
    Calls Tryz.prog 37 #[.slice A n c] W (Ret (.bool (l.all Ltr.good)) W):=by
  obtain rfl:l.length=n:=Ltrs_length hA
  obtain ⟨v,hv⟩:∃ v,v=l.all Ltr.good:=⟨_,rfl⟩
  rw [←hv]
  have Hv:=Lib.hid hv
  clear hv
  go_enter Tryz.func37,Tryz.ntmps37
  go_wp2_with fail
  go_loopw [3] (fun i wr=>∃ k:Nat,k≤l.length∧i = .int .i64 k∧Below W.heap.size W wr∧Hid (∀ y∈l.take k,y.good=true)) (fun i _=>l.length - (intOf i).toNat)
  case atStart=>exact ⟨0,Nat.zero_le _,rfl,bRefl W,Lib.hid (by simp)⟩
  case round =>
    obtain ⟨k,hkn,rfl,hb,hp⟩:=hrel
    by_cases hlt:k<l.length
    · obtain ⟨x,hx⟩:∃ x,Hid (l[k]?=some x):=⟨_,Lib.hid (List.getElem?_eq_getElem hlt)⟩
      obtain ⟨b,off,hAb,hbb,o0,o1,o2,o3,o4,o5⟩:=Ltr_at (hA.below hb) hlt hx.out
      subst hAb
      have q:=ref_check x wr
      have i0:(0:Int)≤(k:Int):=by omega
      have i1:(k:Int)<(l.length:Int):=by omega
      by_cases hg:x.good=true
      · have he:x.err=0:=if_pos hg
        rw [he] at q
        have hp':Hid (∀ z∈l.take (k+1),z.good=true):=by
          intro z hz
          obtain ⟨hk,rfl⟩:=List.getElem?_eq_some_iff.1 hx.out
          rw [List.take_succ_eq_append_getElem hk] at hz
          rcases List.mem_append.1 hz with hz | hz
          · exact hp.out z hz
          · obtain rfl:z=l[k]:=by simpa using hz
            exact hg
        clear he hg
        go_wp2_with fail
        (with_reducible refine q.mono ?_)
        rintro e w' ⟨rfl,b'⟩
        go_wp2_with fail
        exact ⟨⟨k+1,by omega,by go_num,bCall hb b',hp'⟩,by simp [intOf];omega⟩
      · have he:x.err=100:=if_neg hg
        rw [he] at q
        have hx0:Hid (v=false):=by
          show _=_
          rw [Hv.out]
          exact List.all_eq_false.2 ⟨x,List.mem_of_getElem? hx.out,hg⟩
        clear he hg
        go_wp2_with fail
        (with_reducible refine q.mono ?_)
        rintro e w' ⟨rfl,b'⟩
        go_wp2_with fail
        go_ret
        exact ⟨ret_bool hx0.out.symm,bCall hb b'⟩
    · have hx0:Hid (v=true):=by
        show _=_
        rw [Hv.out]
        exact List.all_eq_true.2 (by have:=hp.out;rw [List.take_of_length_le (by omega)] at this;exact this)
      go_wp2_with fail
      go_ret
      exact ⟨ret_bool hx0.out.symm,hb⟩
def nAt (n0 n1 n2:Int) (k:Fin 3):Int:=match k with | 0=>n0 | 1=>n1 | 2=>n2
theorem Ltr.cells_six {w:World} {b:Nat} {t:TypeId} {y:Ltr} (h:Blk w b t y.cells):Blk w b t #[.int .i64 y.a0,.int .i64 y.b0,.int .i64 y.a1,.int .i64 y.b1,.int .i64 y.a2,.int .i64 y.b2]:=h
def setL (y:Ltr) (k:Fin 3) (a b:Int):Ltr:=match k with | 0=>⟨a,b,y.a1,y.b1,y.a2,y.b2⟩ | 1=>⟨y.a0,y.b0,a,b,y.a2,y.b2⟩ | 2=>⟨y.a0,y.b0,y.a1,y.b1,a,b⟩
theorem setL_at (y:Ltr) (k j:Fin 3) (a b:Int):(setL y k a b).aAt j=(if j=k then a else y.aAt j)∧(setL y k a b).bAt j=(if j=k then b else y.bAt j):=by
  match k,j with
  | 0,0=>exact ⟨rfl,rfl⟩
  | 0,1=>exact ⟨rfl,rfl⟩
  | 0,2=>exact ⟨rfl,rfl⟩
  | 1,0=>exact ⟨rfl,rfl⟩
  | 1,1=>exact ⟨rfl,rfl⟩
  | 1,2=>exact ⟨rfl,rfl⟩
  | 2,0=>exact ⟨rfl,rfl⟩
  | 2,1=>exact ⟨rfl,rfl⟩
  | 2,2=>exact ⟨rfl,rfl⟩
theorem Blk.setL0 {w:World} {b:Nat} {t:TypeId} {y:Ltr} (h:Blk w b t y.cells) (u v:Int):Blk ((w.setCell ⟨b,0,none⟩ (.int .i64 u)).setCell ⟨b,1,none⟩ (.int .i64 v)) b t (setL y 0 u v).cells:=by have:=(h.set_ 0 (.int .i64 u)).set_ 1 (.int .i64 v);simpa [Ltr.cells,setL] using this
theorem Blk.setL1 {w:World} {b:Nat} {t:TypeId} {y:Ltr} (h:Blk w b t y.cells) (u v:Int):Blk ((w.setCell ⟨b,2,none⟩ (.int .i64 u)).setCell ⟨b,3,none⟩ (.int .i64 v)) b t (setL y 1 u v).cells:=by have:=(h.set_ 2 (.int .i64 u)).set_ 3 (.int .i64 v);simpa [Ltr.cells,setL] using this
theorem Blk.setL2 {w:World} {b:Nat} {t:TypeId} {y:Ltr} (h:Blk w b t y.cells) (u v:Int):Blk ((w.setCell ⟨b,4,none⟩ (.int .i64 u)).setCell ⟨b,5,none⟩ (.int .i64 v)) b t (setL y 2 u v).cells:=by have:=(h.set_ 4 (.int .i64 u)).set_ 5 (.int .i64 v);simpa [Ltr.cells,setL] using this
theorem Ltr.ext3 {x y:Ltr} (h:∀ j,x.aAt j=y.aAt j∧x.bAt j=y.bAt j):x=y:=by
  have h0:=h 0
  have h1:=h 1
  have h2:=h 2
  cases x;cases y
  simp only [Ltr.aAt,Ltr.bAt] at h0 h1 h2
  simp only [Ltr.mk.injEq]
  exact ⟨h0.1,h0.2,h1.1,h1.2,h2.1,h2.2⟩
theorem six_of {w:World} {b:Nat} {t:TypeId} {y:Ltr} (h:Blk w b t y.cells) :
    w.cell? ⟨b,0,none⟩=some (.int .i64 y.a0)∧w.cell? ⟨b,1,none⟩=some (.int .i64 y.b0)∧w.cell? ⟨b,2,none⟩=some (.int .i64 y.a1)∧w.cell? ⟨b,3,none⟩=some (.int .i64 y.b1)∧w.cell? ⟨b,4,none⟩=some (.int .i64 y.a2)∧w.cell? ⟨b,5,none⟩=some (.int .i64 y.b2):=(Ltr.cells_six h).six
end Go.Proofs.YtgkpomdegomgiaaGreatDoor

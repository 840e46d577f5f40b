/- The reference's codec: texts and lists, encoded; walked. -/
import Derived.Test.YtoeobcmmafncmaaGreatDoorSau
import Derived.Test.YtoeobcmmafncmaaGreatDoorSag
import Derived.Test.YtoeobcmmafncmaaGreatDoorSar
import Derived.Test.YtoeobcmmafncmaaGreatDoorSac
set_option maxRecDepth 1000000
set_option maxHeartbeats 16000000
namespace Go.Proofs.YtoeobcmmafncmaaGreatDoor
open Go.RowKit
theorem ref_enc_text (s:ByteArray) (W:World) (hm:(It.text s).ok) :
  Calls Tryz.prog 144 #[.agg #[.int .i64 2,.int .i64 0,.string s,.slice none 0 0]] W (RetSl 1 (It.text s).enc.length (byts (It.text s).enc) W):=by
 have hm':s.size≤1000000:=hm
 have hl:=numF_len 10 s.size
 have q2:=fun w=>ref_numeral s.size w (by omega)
 obtain ⟨L,hL⟩:∃ L,Hid (L=numN s.size):=⟨_,Lib.hid rfl⟩
 rw [←hL.out] at q2
 have hl2:L.length≤11:=by rw [hL.out];exact hl.2
 have hl0:0<L.length:=by rw [hL.out];exact hl.1
 have hW:Hid (IntKind.u64.wrap (s.size:Int)=(s.size:Int)):=by show _=_;rw [IntKind.wrap_u64];omega
 have BX:=Blk.new W 162 #[.int .i64 2,.int .i64 0,.string s,.slice none 0 0] _ rfl
 have hb:=bAl (bRefl W) (.cells #[.int .i64 2,.int .i64 0,.string s,.slice none 0 0] 162)
 clear hl hm
 go_enter Tryz.func144,Tryz.ntmps144
 go_upto_region 1 with fail
 generalize W.alloc (.cells #[.int .i64 2,.int .i64 0,.string s,.slice none 0 0] 162)=w1 at *
 obtain ⟨k0,k1,k2,k3⟩:=box_cells BX
 have hbs:=hb.size
 have hone:∀ q∈byts L,q.oneCell'=true:=byts_oneCell
 have h63:1+L.length≤maxLen:=by unfold maxLen;omega
 have hby:(1+L.length)*1≤140737488355328:=by omega
 go_upto_region 5 with fail
 have hml:1≤maxLen:=by unfold maxLen;omega
 have hO1:(w1.drew.alloc (.cells #[.int .u8 2] 5)).ownsRow W.heap.size 5 1 (.slice (some ⟨w1.heap.size,0,none⟩) 1 1) 1 [.int .u8 2]:=World.ownsRow_lit w1.drew #[.int .u8 2] 1 hbs hml rfl
 have hO2:∀ w5:World,W.heap.size≤w5.heap.size→(w5.alloc (.cells #[.int .u8 2] 5)).ownsRow W.heap.size 5 1 (.slice (some ⟨w5.heap.size,0,none⟩) 1 1) 1 [.int .u8 2]:=fun w5 h=>World.ownsRow_lit w5 #[.int .u8 2] 1 h hml rfl
 go_region_held3 (fun w'=>w'.cell? ⟨W.heap.size,2,none⟩=some (.string s))
  (first | exact BX7.cell 2 | exact BX6.cell 2 | exact BX5.cell 2 | exact (BX5.alloc _).cell 2 | exact BX.cell 2 | exact (BX.below (by repeat (first | exact bRefl _ | refine bAl ?_ _ | refine bDr ?_)) BX.lt).cell 2)
  (first
  | (refine step_appendR rfl (.tmp 17) (.tmp 22) 123 rfl W.heap.size 5 (.int .u8 0) 1 1 Tryz.underlying123 byte_info (by rfl) (by omega) _ 1 [.int .u8 2] (by rfl) (ownsRow_keep hO1 b5) A5 w5.heap.size L.length c5 (byts L) (by rfl) hR5 hl0 hone h63 hby (bCall (bAl (bDr hb) _) b5).size ?_
     intro v6 w6 hown6 hg6
     have B6:Below W.heap.size W w6:=(bCall (bAl (bDr hb) _) b5).trans (hg6.below (ownsRow_keep hO1 b5) (bCall (bAl (bDr hb) _) b5).size)
     have BX6:Blk w6 W.heap.size 162 #[.int .i64 2,.int .i64 0,.string s,.slice none 0 0]:=hg6.blk (ownsRow_keep hO1 b5) BX5 (by decide))
  | (refine step_appendR rfl (.tmp 17) (.tmp 22) 123 rfl W.heap.size 5 (.int .u8 0) 1 1 Tryz.underlying123 byte_info (by rfl) (by omega) _ 1 [.int .u8 2] (by rfl) (hO2 w5 (bCall (bDr hb) b5).size) A5 w5.heap.size L.length c5 (byts L) (by rfl) (hR5.alloc (Nat.le_refl _) _) hl0 hone h63 hby (bAl (bCall (bDr hb) b5) _).size ?_
     intro v6 w6 hown6 hg6
     have B6:Below W.heap.size W w6:=(bAl (bCall (bDr hb) b5) _).trans (hg6.below (hO2 w5 (bCall (bDr hb) b5).size) (bAl (bCall (bDr hb) b5) _).size)
     have BX6:Blk w6 W.heap.size 162 #[.int .i64 2,.int .i64 0,.string s,.slice none 0 0]:=hg6.blk (hO2 w5 (bCall (bDr hb) b5).size) (BX5.alloc _) (by decide))
  | (refine step_append_str rfl (.tmp 23) (.tmp 25) 123 9 rfl W.heap.size 5 Tryz.underlying123 Tryz.underlying9 byte_info v6 (1 + L.length) _ (by rfl) hown6 s (by rfl) (by unfold maxLen; omega) (by omega) B6.size ?_
     intro v7 w7 hown7 hg7
     have BX7:=hg7.blk hown6 BX6 (by decide)
     have B7:Below W.heap.size W w7:=B6.trans (hg7.below hown6 B6.size))
  | (go_simp;go_at_call 163;rw [hW.out];(with_reducible refine (q2 _).mono ?_);rintro e w5 ⟨v5,rfl,b5,A5,c5,rfl,hR5,_,_,_⟩;have BX5:Blk w5 W.heap.size 162 #[.int .i64 2,.int .i64 0,.string s,.slice none 0 0]:=(BX.below (by repeat (first | exact bRefl _ | refine bAl ?_ _ | refine bDr ?_)) BX.lt).below b5 (by have:=BX.lt;simp <;> omega)))
 all_goals
  go_wp2_with fail
  go_ret
  refine ⟨_,rfl,B7,?_⟩
  have hX:=Sl.of_own hown7
  have e:(It.text s).enc=2::(L++sb s):=by rw [hL.out];rfl
  rw [e,List.length_cons,List.length_append,sb_len]
  rw [strCells_byts] at hX
  have e2:(L.length+s.size+1)=1+L.length+s.size:=by omega
  rw [e2]
  simpa [byts] using hX
theorem ref_enc_it (x:It) (W:World) (hm:x.ok):Calls Tryz.prog 144 #[x.agg] W (RetSl 1 x.enc.length (byts x.enc) W):=by
 cases x with
 | int m=>exact ref_enc_int m W hm
 | text s=>exact ref_enc_text s W hm
theorem ref_enc_list (A:Option Addr) (n c:Nat) (l:List It) (W:World) (hA:Rd W W.heap.size 4 A n (l.flatMap It.cells)) (hok:∀ x∈l,x.ok) (hn:n≤1000) :
  Calls Tryz.prog 144 #[listV A n c] W (fun r w'=>∃ v,r = .returned v∧Below W.heap.size W w'∧w'.ownsRow W.heap.size 5 1 v (encN l).length (byts (encN l))):=by
 obtain rfl:l.length=n:=by have:=hA.1;rw [flat_len It.cells_length] at this;omega
 unfold listV
 have hl:=numF_len 10 l.length
 have q2:=fun w=>ref_numeral l.length w (by omega)
 obtain ⟨L,hL⟩:∃ L,Hid (L=numN l.length):=⟨_,Lib.hid rfl⟩
 rw [←hL.out] at q2
 have hl2:L.length≤11:=by rw [hL.out];exact hl.2
 have hWU:Hid (IntKind.u64.wrap (l.length:Int)=(l.length:Int)):=by show _=_;rw [IntKind.wrap_u64];omega
 have BX:=Blk.new W 162 #[.int .i64 3,.int .i64 0,.string ⟨#[]⟩,.slice A l.length c] _ rfl
 have hb:=bAl (bRefl W) (.cells #[.int .i64 3,.int .i64 0,.string ⟨#[]⟩,.slice A l.length c] 162)
 clear hl
 go_enter Tryz.func144,Tryz.ntmps144
 go_upto_region 1 with fail
 generalize W.alloc (.cells #[.int .i64 3,.int .i64 0,.string ⟨#[]⟩,.slice A l.length c] 162)=w1 at *
 obtain ⟨k0,k1,k2,k3⟩:=box_cells BX
 obtain ⟨j0,j1,j2,j3⟩:=box_cells (BX.alloc (.cells #[.int .u8 3] 5))
 have hown0:=World.ownsRow_lit (base:=W.heap.size) (e:=5) (size:=1) w1 #[.int .u8 3] 1 hb.size (by unfold maxLen;omega) rfl
 go_wp2_with fail
 with_reducible refine (q2 _).mono ?_
 rintro e w3 ⟨v2,rfl,b3,A2,c2,rfl,hR,hc2,_,hnil⟩
 have hown:=ownsRow_keep hown0 b3
 have hb3:=bCall (bAl hb _) b3
 have BX3:=(BX.alloc (.cells #[.int .u8 3] 5)).below b3 (BX.alloc (.cells #[.int .u8 3] 5)).lt
 have hone:∀ q∈byts L,q.oneCell'=true:=byts_oneCell
 have h63:1+L.length≤maxLen:=by unfold maxLen;omega
 have hby:(1+L.length)*1≤140737488355328:=by omega
 have hbs:=hb3.size
 clear b3 q2 hown0 k0 k1 k2 k3 j0 j1 j2 j3 BX hb
 go_wp2_with (at_builtin;refine wpList_appendG (.tmp 27) (.tmp 32) 123 W.heap.size 5 (.int .u8 0) 1 1 _ 1 _ A2 L.length c2 w3.heap.size (byts L) rfl rfl Tryz.underlying123 byte_info rfl (by omega) rfl hown rfl hR hnil hone h63 hby hbs ?_;intro v4 w4 hown4 hg4)
 have hb4:=hb3.trans (hg4.below hown hbs)
 have BX4:=hg4.blk hown BX3 (by decide)
 have hown5:w4.ownsRow W.heap.size 5 1 v4 (1+L.length) (byts (3::L)):=by simpa [byts] using hown4
 clear hown hb3 BX3 hR hnil hown4 hg4 hbs hone
 go_loopw [3,4] (fun v i wr=>∃ k:Nat,k≤l.length∧i = .int .i64 k∧wr.ownsRow W.heap.size 5 1 v (1+L.length+(encL (l.take k)).length) (byts (3::L++encL (l.take k)))∧Below W.heap.size W wr∧Blk wr W.heap.size 162 #[.int .i64 3,.int .i64 0,.string ⟨#[]⟩,.slice A l.length c]) (fun _ i _=>l.length - (intOf i).toNat)
 case atStart=>exact ⟨0,Nat.zero_le _,rfl,by simpa [encL] using hown5,hb4,BX4⟩
 case round =>
  clear hb4 BX4 hown5
  obtain ⟨k,hk,rfl,hown,hb,BX⟩:=hrel
  obtain ⟨m0,m1,m2,m3⟩:=box_cells BX
  by_cases hlt:k<l.length
  ·obtain ⟨x,hx⟩:∃ x,Hid (l[k]?=some x):=⟨_,Lib.hid (List.getElem?_eq_getElem hlt)⟩
   obtain ⟨b,off,rfl,hbb,hc⟩:=It_at (hA.below hb) hlt hx.out
   obtain ⟨y0,y1,y2,y3,hx1,hx2⟩:=x.four
   obtain ⟨c0,c1,c2,c3⟩:=It.fourc hx1 hc
   have hxo:=hok x (List.mem_of_getElem? hx.out)
   have q:=fun w=>ref_enc_it x w hxo
   rw [hx2] at q
   have hsn:Hid (encL (l.take (k+1))=encL (l.take k)++x.enc):=by
    obtain ⟨hk,rfl⟩:=List.getElem?_eq_some_iff.1 hx.out
    show _=_
    rw [List.take_succ_eq_append_getElem hk,encL_snoc]
   have hxe:=enc_len hxo
   have hle:Hid (1+L.length+(encL (l.take k)).length≤70368744100000):=by
    have h2:=encL_len (l:=l.take k) (fun y hy=>hok y (List.mem_of_mem_take hy))
    rw [List.length_take] at h2
    have h3:min k l.length*1000012≤1000*1000012:=Nat.mul_le_mul_right _ (by omega)
    show _≤_
    omega
   clear hc hx1 hx2 hx hxo
   go_wp2_with fail
   with_reducible refine (q _).mono ?_
   rintro e w2 ⟨v2,rfl,b2,A2,c4,rfl,hR,_,_,hnil⟩
   have hb2:=bCall hb b2
   have BX2:=BX.below b2 BX.lt
   have hown2:=ownsRow_keep hown b2
   have hone:∀ q∈byts x.enc,q.oneCell'=true:=byts_oneCell
   have h63:1+L.length+(encL (l.take k)).length+x.enc.length≤maxLen:=by have:=hle.out;unfold maxLen;omega
   have hby:(1+L.length+(encL (l.take k)).length+x.enc.length)*1≤140737488355328:=by have:=hle.out;omega
   have hbs:=hb2.size
   clear hb b2 q BX hown m0 m1 m2 m3 c0 c1 c2 c3
   go_wp2_with (at_builtin;refine wpList_appendG (.tmp 41) (.tmp 47) 123 W.heap.size 5 (.int .u8 0) 1 1 _ (1+L.length+(encL (l.take k)).length) _ A2 x.enc.length c4 w2.heap.size (byts x.enc) rfl rfl Tryz.underlying123 byte_info rfl (by omega) rfl hown2 rfl hR hnil hone h63 hby hbs ?_;intro v4 w4 hown4 hg4)
   go_roundw
   case rel=>exact ⟨k+1,by omega,by go_num,by rw [hsn.out,List.length_append];simpa [byts,Nat.add_assoc] using hown4,hb2.trans (hg4.below hown2 hbs),hg4.blk hown2 BX2 (by decide)⟩
   case measure=>simp [intOf];omega
  ·have hkn:Hid (encL (l.take k)=encL l):=by show _=_;rw [List.take_of_length_le (by omega)]
   rw [hkn.out] at hown
   go_wp2_with fail
   go_ret
   refine ⟨_,rfl,hb,?_⟩
   have e:encN l=3::L++encL l:=by rw [hL.out];rfl
   have e2:(3::L++encL l).length=1+L.length+(encL l).length:=by simp;omega
   rw [e,e2]
   exact hown
theorem ref_encodeO (A:Option Addr) (n c:Nat) (l:List It) (W:World) (hA:Rd W W.heap.size 4 A n (l.flatMap It.cells)) (hok:∀ x∈l,x.ok) (hn:n≤1000) :
  Calls Tryz.prog 118 #[listV A n c] W (fun r w'=>∃ v,r = .returned (.tuple #[v,.int .i64 0])∧Below W.heap.size W w'∧w'.ownsRow W.heap.size 5 1 v (encN l).length (byts (encN l))):=by
 have hA2:=(hA.alloc (Nat.le_refl _) (.cells #[.int .i64 3,.int .i64 0,.string ⟨#[]⟩,.slice A n c] 162)).more (B':=(W.alloc (.cells #[.int .i64 3,.int .i64 0,.string ⟨#[]⟩,.slice A n c] 162)).heap.size) (by simp)
 have BX:=Blk.new W 162 #[.int .i64 3,.int .i64 0,.string ⟨#[]⟩,.slice A n c] _ rfl
 have hb:=bAl (bRefl W) (.cells #[.int .i64 3,.int .i64 0,.string ⟨#[]⟩,.slice A n c] 162)
 unfold listV
 go_enter Tryz.func118,Tryz.ntmps118
 go_upto_region 1 with fail
 generalize W.alloc (.cells #[.int .i64 3,.int .i64 0,.string ⟨#[]⟩,.slice A n c] 162)=w1 at *
 have q:=ref_ccheck A n c l w1 hA2 (by omega)
 obtain ⟨m0,m1,m2,m3⟩:=box_cells BX
 unfold listV at q
 go_wp2_with fail
 with_reducible refine q.mono ?_
 rintro e w2 ⟨rfl,b2⟩
 have hb2:=bCall hb b2
 have BX2:=BX.below b2 BX.lt
 have q2:=ref_enc_list A n c l w2 ((hA2.below b2).more b2.size) hok hn
 unfold listV at q2
 clear q hb b2 BX m0 m1 m2 m3
 obtain ⟨m0,m1,m2,m3⟩:=box_cells BX2
 go_wp2_with fail
 with_reducible refine q2.mono ?_
 rintro e w3 ⟨v3,rfl,b3,hS⟩
 have hb3:=bCall hb2 b3
 go_wp2_with fail
 go_ret2
 exact ⟨_,rfl,hb3,own_base hS hb2.size⟩
theorem ref_encode (A:Option Addr) (n c:Nat) (l:List It) (W:World) (hA:Rd W W.heap.size 4 A n (l.flatMap It.cells)) (hok:∀ x∈l,x.ok) (hn:n≤1000) :
  Calls Tryz.prog 118 #[listV A n c] W (fun r w'=>∃ v,r = .returned (.tuple #[v,.int .i64 0])∧Below W.heap.size W w'∧Sl w' w'.heap.size 1 v (encN l).length (byts (encN l))) :=
 (ref_encodeO A n c l W hA hok hn).mono (fun _ _ ⟨v,h1,h2,h3⟩=>⟨v,h1,h2,Sl.of_own h3⟩)
theorem one_u8 (X:Int):∀ q∈[Value.int .u8 X],q.oneCell'=true:=by intro q hq;simp at hq;subst hq;rfl
theorem own_byte {w:World} {base n:Nat} {v:Value} {L:List Nat} {x:Nat} {Y:Int} (h:w.ownsRow base 5 1 v (n+1) (byts L++[.int .u8 Y])) (hY:Y=(x:Nat)):w.ownsRow base 5 1 v (n+1) (byts (L++[x])):=by
 subst hY
 unfold byts
 rw [List.map_append]
 exact h
theorem bytesN_next (N k:Nat) (h:k<8):bytesN (N / 256 ^ (8 - (k+1))) (k+1)=bytesN (N / 256 ^ (8 - k)) k++[N / 256 ^ (7 - k) % 256]:=by
 have e:8 - (k+1)=7 - k:=by omega
 have e2:8 - k=7 - k+1:=by omega
 rw [e,e2,Nat.pow_succ,←Nat.div_div_eq_div_mul]
 rfl
def RetOwn (n:Nat) (xs:List Value) (W:World) (r:Ending) (w':World):Prop:=∃ v,r = .returned v∧Below W.heap.size W w'∧w'.ownsRow W.heap.size 5 1 v n xs
theorem ownsRow_setRow {w:World} {base:Nat} {e:TypeId} {size n:Nat} {v:Value} {xs:List Value} (h:w.ownsRow base e size v n xs) {g:Nat} (hg:g<base) (cs:Array Value):(w.setRow g cs).ownsRow base e size v n xs:=by
 refine h.kept (row:=some g) ⟨rfl,rfl,rfl,by simp,fun k _ hk=>setRow_other w g k _ (fun e=>hk (by rw [e]))⟩ ?_
 cases hv:v.ownBlock with
 | none=>exact .inl rfl
 | some k=>exact .inr (by intro e;injection e with e;have:=(h.lt k hv).1;omega)
def padL (l:List Nat) (j:Nat):List Nat:=l++128::List.replicate j 0
theorem padL_len (l:List Nat) (j:Nat):(padL l j).length=l.length+1+j:=by simp [padL];omega
theorem padL_succ (l:List Nat) (j:Nat):padL l (j+1)=padL l j++[0]:=by simp [padL,List.replicate_succ']
def slLen:Value→Nat
 | .slice _ n _=>n
 | _=>0
def padZ (n:Nat):Nat:=(119 - n % 64) % 64
theorem pad_full (l:List Nat) (h:l.length*8<18446744073709551616):padL l (padZ l.length)++bytesN (l.length*8) 8=l++padN l.length:=by
 unfold padL padN padZ
 rw [Nat.mod_eq_of_lt h]
 simp
theorem ref_padded (A:Option Addr) (n c:Nat) (l:List Nat) (W:World) (hA:Rd W W.heap.size 1 A n (byts l)) (hnil:A=none→n=0∧c=0) (hn:n≤70368744177700) :
  Calls Tryz.prog 165 #[.slice A n c] W (RetOwn (l++padN l.length).length (byts (l++padN l.length)) W):=by
 obtain rfl:l.length=n:=by have:=hA.1;rw [byts_length,Nat.mul_one] at this;exact this
 have hown0:=World.ownsRow_lit (base:=W.heap.size) (e:=5) (size:=1) W #[] 0 (Nat.le_refl _) (by unfold maxLen;omega) rfl
 have hb0:=bAl (bRefl W) (.cells #[] 5)
 have hA1:=hA.below hb0
 have hone:=byts_oneCell (l:=l)
 have h63:0+l.length≤maxLen:=by unfold maxLen;omega
 have hby:(0+l.length)*1≤140737488355328:=by omega
 have hbs:=hb0.size
 have HF:=Lib.hid (pad_full l (by omega))
 obtain ⟨z,hz⟩:∃ z,Hid (z=padZ l.length):=⟨_,Lib.hid rfl⟩
 have hz64:z<64:=by rw [hz.out];exact Nat.mod_lt _ (by decide)
 have hz56:Hid ((l.length+1+z) % 64=56):=by show _=_;rw [hz.out];unfold padZ;omega
 rw [←hz.out] at HF
 go_enter Tryz.func165,Tryz.ntmps165
 go_wp2_with (at_builtin;first
  | (refine wpList_appendG (.tmp 6) (.tmp 7) 123 W.heap.size 5 (.int .u8 0) 1 1 _ 0 _ A l.length c W.heap.size (byts l) rfl rfl Tryz.underlying123 byte_info rfl (by omega) rfl hown0 rfl hA1 hnil hone h63 hby hbs ?_;intro v1 w1 hown1 hg1;have hb1:=hb0.trans (hg1.below hown0 hbs))
  | (refine wpList_append1G w1 [.int .u8 128] (.tmp 8) (.tmp 9) 123 W.heap.size 5 (.int .u8 0) 1 1 v1 (0+l.length) _ rfl rfl Tryz.underlying123 byte_info rfl (by omega) rfl hown1 rfl rfl (one_u8 _) (by unfold maxLen;omega) (by omega) hb1.size ?_;intro v2 w2 hown2 hg2;have hb2:=hb1.trans (hg2.below hown1 hb1.size)))
 have hown3:w2.ownsRow W.heap.size 5 1 v2 (l.length+1) (byts (padL l 0)):=by simpa [padL,byts] using hown2
 clear hown2 hown1 hown0 hg1 hg2 hb1 hb0 hA1 hbs hone h63 hby
 go_loopw [3] (fun v wr=>∃ j m:Nat,j≤z∧Hid (m=l.length+1+j)∧wr.ownsRow W.heap.size 5 1 v m (byts (padL l j))∧Below W.heap.size W wr) (fun v _=>18446744073709551616 - slLen v)
 case atStart=>exact ⟨0,_,Nat.zero_le _,Lib.hid rfl,hown3,hb2⟩
 case round =>
  clear hown3 hb2
  obtain ⟨j,m,hj,hm,hown,hb⟩:=hrel
  obtain ⟨A2,c2,hv,-⟩:=Sl.of_own hown
  subst hv
  have hm':=hm.out
  have hbs:=hb.size
  have hsn:=Lib.hid (padL_succ l j)
  by_cases hlt:j<z
  ·have ht:((m:Int) % 64 != 56)=true:=by rw [bne_iff_ne];have:=hz56.out;omega
   have hm2:Hid (m+1=l.length+1+(j+1)):=by show _=_;omega
   have hmm:m≤70368744177800:=by omega
   have h63:m+1≤maxLen:=by unfold maxLen;omega
   have hby:(m+1)*1≤140737488355328:=by omega
   clear hm'
   go_wp2_with (at_builtin;refine wpList_append1G wr [.int .u8 0] (.tmp 15) (.tmp 16) 123 W.heap.size 5 (.int .u8 0) 1 1 _ m _ rfl rfl Tryz.underlying123 byte_info rfl (by omega) rfl hown rfl rfl (one_u8 _) h63 hby hbs ?_;intro v2 w2 hown2 hg2)
   obtain ⟨g',cap',rfl⟩:=ownsRow_succ hown2
   go_roundw
   case rel=>exact ⟨j+1,m+1,by omega,hm2,by rw [hsn.out];exact own_byte hown2 rfl,hb.trans (hg2.below hown hbs)⟩
   case measure=>simp [slLen];omega
  ·have hjz:j=z:=by omega
   have ht:((m:Int) % 64 != 56)=false:=by rw [bne_eq_false_iff_eq];have:=hz56.out;omega
   have hmm:m≤70368744177800:=by omega
   have hzj:=Lib.hid hjz
   rw [hjz] at hown
   clear hjz hm' hlt hsn hj
   go_wp2_with fail
   obtain ⟨N,hN⟩:∃ N,Hid (N=l.length*8):=⟨_,Lib.hid rfl⟩
   have hNI:Hid (((l.length:Nat):Int)*8=(N:Int)):=by show _=_;rw [hN.out];omega
   rw [hNI.out]
   go_loopw [3,5] (fun v i wr=>∃ (k:Nat) (y:Int),Hid (y=7 - k) ∧ -1≤y∧y≤7∧i = .int .i64 y∧wr.ownsRow W.heap.size 5 1 v (m+k) (byts (padL l z++bytesN (N / 256 ^ (8 - k)) k))∧Below W.heap.size W wr) (fun _ i _=>(intOf i+1).toNat)
   case atStart=>exact ⟨0,7,Lib.hid rfl,by omega,by omega,rfl,by simpa [bytesN] using hown,hb⟩
   case round =>
    clear hown hb hbs ht
    obtain ⟨k,y,hy,hy0,hy7,rfl,hown,hb⟩:=hrel
    have hbs:=hb.size
    have h63:m+k+1≤maxLen:=by have:=hy.out;unfold maxLen;omega
    have hby:(m+k+1)*1≤140737488355328:=by have:=hy.out;omega
    have hstep:=Lib.hid (bytesN_next N k)
    obtain ⟨A3,c3,hv3,-⟩:=Sl.of_own hown
    have h9:y=7∨y=6∨y=5∨y=4∨y=3∨y=2∨y=1∨y=0∨y = -1:=by omega
    rcases h9 with rfl | rfl | rfl | rfl | rfl | rfl | rfl | rfl | rfl
    ·obtain rfl:k=0:=by have:=hy.out;omega
     have hst:=Lib.hid (hstep.out (by omega))
     have hp:(256:Nat) ^ (7 - 0)=72057594037927936:=by decide
     clear hy hstep
     go_wp2_with (at_builtin;refine wpList_append1G wr [.int .u8 _] (.tmp 26) (.tmp 32) 123 W.heap.size 5 (.int .u8 0) 1 1 _ (m+0) _ rfl rfl Tryz.underlying123 byte_info rfl (by omega) rfl hown rfl rfl (one_u8 _) h63 hby hbs ?_;intro v2 w2 hown2 hg2)
     go_roundw
     case rel=>exact ⟨0+1,6,Lib.hid (by omega),by omega,by omega,rfl,by rw [hst.out,←List.append_assoc,←Nat.add_assoc];exact own_byte hown2 (by rw [hp];omega),hb.trans (hg2.below hown hbs)⟩
     case measure=>simp [intOf]
    ·obtain rfl:k=1:=by have:=hy.out;omega
     have hst:=Lib.hid (hstep.out (by omega))
     have hp:(256:Nat) ^ (7 - 1)=281474976710656:=by decide
     clear hy hstep
     go_wp2_with (at_builtin;refine wpList_append1G wr [.int .u8 _] (.tmp 26) (.tmp 32) 123 W.heap.size 5 (.int .u8 0) 1 1 _ (m+1) _ rfl rfl Tryz.underlying123 byte_info rfl (by omega) rfl hown rfl rfl (one_u8 _) h63 hby hbs ?_;intro v2 w2 hown2 hg2)
     go_roundw
     case rel=>exact ⟨1+1,5,Lib.hid (by omega),by omega,by omega,rfl,by rw [hst.out,←List.append_assoc,←Nat.add_assoc];exact own_byte hown2 (by rw [hp];omega),hb.trans (hg2.below hown hbs)⟩
     case measure=>simp [intOf]
    ·obtain rfl:k=2:=by have:=hy.out;omega
     have hst:=Lib.hid (hstep.out (by omega))
     have hp:(256:Nat) ^ (7 - 2)=1099511627776:=by decide
     clear hy hstep
     go_wp2_with (at_builtin;refine wpList_append1G wr [.int .u8 _] (.tmp 26) (.tmp 32) 123 W.heap.size 5 (.int .u8 0) 1 1 _ (m+2) _ rfl rfl Tryz.underlying123 byte_info rfl (by omega) rfl hown rfl rfl (one_u8 _) h63 hby hbs ?_;intro v2 w2 hown2 hg2)
     go_roundw
     case rel=>exact ⟨2+1,4,Lib.hid (by omega),by omega,by omega,rfl,by rw [hst.out,←List.append_assoc,←Nat.add_assoc];exact own_byte hown2 (by rw [hp];omega),hb.trans (hg2.below hown hbs)⟩
     case measure=>simp [intOf]
    ·obtain rfl:k=3:=by have:=hy.out;omega
     have hst:=Lib.hid (hstep.out (by omega))
     have hp:(256:Nat) ^ (7 - 3)=4294967296:=by decide
     clear hy hstep
     go_wp2_with (at_builtin;refine wpList_append1G wr [.int .u8 _] (.tmp 26) (.tmp 32) 123 W.heap.size 5 (.int .u8 0) 1 1 _ (m+3) _ rfl rfl Tryz.underlying123 byte_info rfl (by omega) rfl hown rfl rfl (one_u8 _) h63 hby hbs ?_;intro v2 w2 hown2 hg2)
     go_roundw
     case rel=>exact ⟨3+1,3,Lib.hid (by omega),by omega,by omega,rfl,by rw [hst.out,←List.append_assoc,←Nat.add_assoc];exact own_byte hown2 (by rw [hp];omega),hb.trans (hg2.below hown hbs)⟩
     case measure=>simp [intOf]
    ·obtain rfl:k=4:=by have:=hy.out;omega
     have hst:=Lib.hid (hstep.out (by omega))
     have hp:(256:Nat) ^ (7 - 4)=16777216:=by decide
     clear hy hstep
     go_wp2_with (at_builtin;refine wpList_append1G wr [.int .u8 _] (.tmp 26) (.tmp 32) 123 W.heap.size 5 (.int .u8 0) 1 1 _ (m+4) _ rfl rfl Tryz.underlying123 byte_info rfl (by omega) rfl hown rfl rfl (one_u8 _) h63 hby hbs ?_;intro v2 w2 hown2 hg2)
     go_roundw
     case rel=>exact ⟨4+1,2,Lib.hid (by omega),by omega,by omega,rfl,by rw [hst.out,←List.append_assoc,←Nat.add_assoc];exact own_byte hown2 (by rw [hp];omega),hb.trans (hg2.below hown hbs)⟩
     case measure=>simp [intOf]
    ·obtain rfl:k=5:=by have:=hy.out;omega
     have hst:=Lib.hid (hstep.out (by omega))
     have hp:(256:Nat) ^ (7 - 5)=65536:=by decide
     clear hy hstep
     go_wp2_with (at_builtin;refine wpList_append1G wr [.int .u8 _] (.tmp 26) (.tmp 32) 123 W.heap.size 5 (.int .u8 0) 1 1 _ (m+5) _ rfl rfl Tryz.underlying123 byte_info rfl (by omega) rfl hown rfl rfl (one_u8 _) h63 hby hbs ?_;intro v2 w2 hown2 hg2)
     go_roundw
     case rel=>exact ⟨5+1,1,Lib.hid (by omega),by omega,by omega,rfl,by rw [hst.out,←List.append_assoc,←Nat.add_assoc];exact own_byte hown2 (by rw [hp];omega),hb.trans (hg2.below hown hbs)⟩
     case measure=>simp [intOf]
    ·obtain rfl:k=6:=by have:=hy.out;omega
     have hst:=Lib.hid (hstep.out (by omega))
     have hp:(256:Nat) ^ (7 - 6)=256:=by decide
     clear hy hstep
     go_wp2_with (at_builtin;refine wpList_append1G wr [.int .u8 _] (.tmp 26) (.tmp 32) 123 W.heap.size 5 (.int .u8 0) 1 1 _ (m+6) _ rfl rfl Tryz.underlying123 byte_info rfl (by omega) rfl hown rfl rfl (one_u8 _) h63 hby hbs ?_;intro v2 w2 hown2 hg2)
     go_roundw
     case rel=>exact ⟨6+1,0,Lib.hid (by omega),by omega,by omega,rfl,by rw [hst.out,←List.append_assoc,←Nat.add_assoc];exact own_byte hown2 (by rw [hp];omega),hb.trans (hg2.below hown hbs)⟩
     case measure=>simp [intOf]
    ·obtain rfl:k=7:=by have:=hy.out;omega
     have hst:=Lib.hid (hstep.out (by omega))
     have hp:(256:Nat) ^ (7 - 7)=1:=by decide
     clear hy hstep
     go_wp2_with (at_builtin;refine wpList_append1G wr [.int .u8 _] (.tmp 26) (.tmp 32) 123 W.heap.size 5 (.int .u8 0) 1 1 _ (m+7) _ rfl rfl Tryz.underlying123 byte_info rfl (by omega) rfl hown rfl rfl (one_u8 _) h63 hby hbs ?_;intro v2 w2 hown2 hg2)
     go_roundw
     case rel=>exact ⟨7+1,-1,Lib.hid (by omega),by omega,by omega,rfl,by rw [hst.out,←List.append_assoc,←Nat.add_assoc];exact own_byte hown2 (by rw [hp];omega),hb.trans (hg2.below hown hbs)⟩
     case measure=>simp [intOf]
    ·obtain rfl:k=8:=by have:=hy.out;omega
     go_wp2_with fail
     go_ret
     refine ⟨_,rfl,hb,?_⟩
     have e:padL l z++bytesN (N / 256 ^ (8 - 8)) 8=l++padN l.length:=by
      have h:=HF.out
      rw [←hN.out] at h
      rw [Nat.sub_self,Nat.pow_zero,Nat.div_one]
      exact h
     rw [e] at hown
     have e2:(l++padN l.length).length=m+8:=by rw [←HF.out,List.length_append,padL_len,bytesN_len,hm.out,hzj.out]
     rw [e2]
     exact hown
end Go.Proofs.YtoeobcmmafncmaaGreatDoor

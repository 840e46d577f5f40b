/- The reference's values: numbers, digests, lists; an opening as a value; walked. -/
import Derived.Test.YtoeobcmmafncmaaGreatDoorSav
import Derived.Test.YtoeobcmmafncmaaGreatDoorSao
import Derived.Test.YtoeobcmmafncmaaGreatDoorSaw
set_option maxRecDepth 1000000
set_option maxHeartbeats 16000000
namespace Go.Proofs.YtoeobcmmafncmaaGreatDoor
open Go.RowKit
abbrev intV (n:Int):Value := .agg #[.int .i64 1,.int .i64 n,.string ⟨#[]⟩,.slice none 0 0]
abbrev textV (s:ByteArray):Value := .agg #[.int .i64 2,.int .i64 0,.string s,.slice none 0 0]
theorem ref_vint (n:Int) (W:World):Calls Tryz.prog 117 #[.int .i64 n] W (Ret (intV n) W):=by
 have hb:=bAl (bRefl W) (.cells #[.int .i64 1,.int .i64 n,.string ⟨#[]⟩,.slice none 0 0] 162)
 go_enter Tryz.func117,Tryz.ntmps117
 go_wp2_with fail
 exact bodyPost_ret (v:=intV n) (by simp [results,Tryz.results117,go_sem,intV]) rfl ⟨rfl,hb⟩
theorem ref_vnum (n:Int) (W:World):Calls Tryz.prog 178 #[.int .i64 n] W (Ret (intV n) W):=by
 have hb:=bAl (bRefl W) (.cells #[.int .i64 1,.int .i64 n,.string ⟨#[]⟩,.slice none 0 0] 162)
 go_enter Tryz.func178,Tryz.ntmps178
 go_wp2_with fail
 exact bodyPost_ret (v:=intV n) (by simp [results,Tryz.results178,go_sem,intV]) rfl ⟨rfl,hb⟩
theorem ref_vlist (A:Option Addr) (n c:Nat) (W:World):Calls Tryz.prog 177 #[.slice A n c] W (Ret (listV A n c) W):=by
 have hb:=bAl (bRefl W) (.cells #[.int .i64 3,.int .i64 0,.string ⟨#[]⟩,.slice A n c] 162)
 go_enter Tryz.func177,Tryz.ntmps177
 go_wp2_with fail
 exact bodyPost_ret (v:=listV A n c) (by simp [results,Tryz.results177,go_sem,listV]) rfl ⟨rfl,hb⟩
def RetV (l:List It) (W:World) (r:Ending) (w':World):Prop:=∃ A c,r = .returned (listV A l.length c)∧Below W.heap.size W w'∧Rd w' w'.heap.size 4 A l.length (l.flatMap It.cells)
def RetVO (l:List It) (W:World) (r:Ending) (w':World):Prop:=∃ A c,r = .returned (listV A l.length c)∧Below W.heap.size W w'∧w'.ownsRow W.heap.size 162 4 (.slice A l.length c) l.length (l.flatMap It.cells)
theorem ref_intsO (A:Option Addr) (n c:Nat) (l:List Int) (W:World) (hA:Rd W W.heap.size 1 A n (ints l)) (hn:n≤100) :
  Calls Tryz.prog 115 #[.slice A n c] W (RetVO (l.map It.int) W):=by
 obtain rfl:l.length=n:=by have:=hA.1;rw [ints_length,Nat.mul_one] at this;exact this
 go_enter Tryz.func115,Tryz.ntmps115
 go_upto_region 2 with fail
 have BR:=(Blk.new W 162 #[.int .i64 0,.int .i64 0,.string ⟨#[]⟩,.slice none 0 0] _ rfl).alloc (.cells #[.int .i64 3,.int .i64 0,.string ⟨#[]⟩,.slice none 0 0] 162)
 have BV:=Blk.new (W.alloc (.cells #[.int .i64 0,.int .i64 0,.string ⟨#[]⟩,.slice none 0 0] 162)) 162 #[.int .i64 3,.int .i64 0,.string ⟨#[]⟩,.slice none 0 0] (W.heap.size+1) (by simp)
 have hb:=bAl (bAl (bRefl W) (.cells #[.int .i64 0,.int .i64 0,.string ⟨#[]⟩,.slice none 0 0] 162)) (.cells #[.int .i64 3,.int .i64 0,.string ⟨#[]⟩,.slice none 0 0] 162)
 generalize (W.alloc (.cells #[.int .i64 0,.int .i64 0,.string ⟨#[]⟩,.slice none 0 0] 162)).alloc (.cells #[.int .i64 3,.int .i64 0,.string ⟨#[]⟩,.slice none 0 0] 162)=w1 at *
 go_wp2_with fail
 go_loopw [4] (fun i wr=>∃ (k:Nat) (v:Value),k≤l.length∧i = .int .i64 k∧Below W.heap.size W wr∧Blk wr W.heap.size 162 #[.int .i64 0,.int .i64 0,.string ⟨#[]⟩,.slice none 0 0]∧Blk wr (W.heap.size+1) 162 #[.int .i64 3,.int .i64 0,.string ⟨#[]⟩,v]∧wr.ownsRow (W.heap.size+2) 162 4 v k (((l.take k).map It.int).flatMap It.cells)) (fun i _=>l.length - (intOf i).toNat)
 case atStart=>exact ⟨0,_,Nat.zero_le _,rfl,hb,BR,BV,World.ownsRow_nil _ _ _ _⟩
 case round =>
  clear hb BV BR
  obtain ⟨k,v,hk,rfl,hb,BR,BV,hown⟩:=hrel
  by_cases hlt:k<l.length
  ·obtain ⟨x,hx⟩:∃ x,Hid (l[k]?=some x):=⟨_,Lib.hid (List.getElem?_eq_getElem hlt)⟩
   obtain ⟨b,off,rfl,hbb,d0⟩:=Int_at (hA.below hb) hlt hx.out
   have hsn:Hid (((l.take (k+1)).map It.int).flatMap It.cells=((l.take k).map It.int).flatMap It.cells++(It.int x).cells):=by
    obtain ⟨hk,rfl⟩:=List.getElem?_eq_some_iff.1 hx.out
    show _=_
    rw [List.take_succ_eq_append_getElem hk,List.map_append,List.flatMap_append];simp
   have hbs:W.heap.size+1<wr.heap.size:=BV.lt
   have hone:=it_one (.int x)
   have h63:k+1≤maxLen:=by unfold maxLen;omega
   have hby:(k+1)*56≤140737488355328:=by omega
   have i0:(0:Int)≤(k:Int):=by omega
   have i1:(k:Int)<(l.length:Int):=by omega
   have KS:Hid (∀ w',Below wr.heap.size wr w'→w'.cell? ⟨W.heap.size+1,3,none⟩=some v∧w'.cell? ⟨b,off+k,none⟩=some (.int .i64 x)):=Lib.hid (fun w' h=>⟨(BV.below h BV.lt).cell 3,(h.cell (p:=⟨b,off+k,none⟩) (Nat.lt_of_lt_of_le hbb hb.size)).trans d0⟩)
   clear d0
   go_upto_region 5 with fail
   refine wp_region_schB (f:=8) KS [(0,1),(1,2),(2,1),(3,1),(4,1),(5,2),(6,0),(7,0),(8,3),(9,3),(10,3)] ?_
   simp only [pickS,List.getElem?_cons_zero,List.getElem?_cons_succ]
   refine wpSched_t ?_
   refine wpSched_r ?_
   iterate 3 refine wpSched_t ?_
   refine wpSched_r ?_
   refine wpSched_force (fun K hK=>?_)
   go_simp;(first | (go_at_call 117;(with_reducible refine (ref_vint x wr.drew).mono ?_);unfold intV;rintro e w9 ⟨rfl,b9⟩;have B7:Below wr.heap.size wr w9:=bCall (bDr (bRefl _)) b9) | skip)
   refine shut_go hK KS ?_
   clear hK K
   refine wpSched_force (fun K hK=>?_)
   go_simp;(first | (go_at_call 117;(with_reducible refine (ref_vint x wr.drew).mono ?_);unfold intV;rintro e w9 ⟨rfl,b9⟩;have B7:Below wr.heap.size wr w9:=bCall (bDr (bRefl _)) b9) | skip)
   refine shut_go hK KS ?_
   clear hK K
   refine wpSched_last ?_
   first | simp only [List.map_nil] | simp only [List.map_cons,List.map_nil]
   have hown9:w9.ownsRow (W.heap.size+2) 162 4 v k _:=ownsRow_keep hown B7
   have BV9:=BV.below B7 BV.lt
   have BR9:=BR.below B7 BR.lt
   have hb9:=bCall hb B7
   have hs9:W.heap.size+2≤w9.heap.size:=Nat.le_trans hbs B7.size
   refine wpList_append1G w9 [.int .i64 1,.int .i64 x,.string ⟨#[]⟩,.slice none 0 0] (.tmp 13) (.tmp 19) 160 (W.heap.size+2) 162 (.agg #[.int .i64 0,.int .i64 0,.string ⟨#[]⟩,.slice none 0 0]) 4 56 v k (((l.take k).map It.int).flatMap It.cells) (by rfl) (by rfl) Tryz.underlying160 value_info rfl (by omega) (by rfl) hown9 (by rfl) rfl hone h63 hby hs9 ?_
   intro v' w' hown4 hg4
   obtain ⟨g',cap',rfl⟩:=ownsRow_succ hown4
   have b4:=hg4.below hown9 hs9
   have BV4:=BV9.below b4 (by omega)
   have BR4:=BR9.below b4 (by omega)
   have c4:=val_cell BV4
   have z4:=BV4.frozen 3
   have hb4:=hb9.trans (b4.mono (by omega))
   clear KS B7 hown9 BV9 BR9 hb9 hs9 b4 hown hb BR BV hg4
   go_wp2_with fail
   refine NoPanic.normal ?_
   go_wp2_with fail
   exact ⟨⟨k+1,_,by omega,by go_num,bSet hb4 (by show W.heap.size≤W.heap.size+1;omega) _,BR4.far (by show W.heap.size≠W.heap.size+1;omega) _,BV4.set_ 3 _,by rw [hsn.out];exact ownsRow_set hown4 (p:=⟨W.heap.size+1,3,none⟩) (by show W.heap.size+1<W.heap.size+2;omega) _⟩,by simp [intOf];omega⟩
  ·have hkn:k=l.length:=by omega
   rw [hkn,List.take_length] at hown
   clear hkn
   obtain ⟨A2,c2,hv,hR,_⟩:=Sl.of_own hown
   subst hv
   obtain ⟨e0,e1,e2,e3⟩:=box_cells BV
   have z0:=BR.frozen 0
   have z1:=BR.frozen 1
   have z2:=BR.frozen 2
   have z3:=BR.frozen 3
   obtain ⟨y0,y1,y2,y3⟩:=box_cells BR
   have hlm:Hid ((l.map It.int).length=l.length):=by show _=_;simp
   have hown2:=ownsRow_set (ownsRow_set (ownsRow_set (ownsRow_set hown (p:=⟨W.heap.size,0,none⟩) (by show W.heap.size<W.heap.size+2;omega) (.int .i64 3)) (p:=⟨W.heap.size,1,none⟩) (by show W.heap.size<W.heap.size+2;omega) (.int .i64 0)) (p:=⟨W.heap.size,2,none⟩) (by show W.heap.size<W.heap.size+2;omega) (.string ⟨#[]⟩)) (p:=⟨W.heap.size,3,none⟩) (by show W.heap.size<W.heap.size+2;omega) (.slice A2 l.length c2)
   have hb2:=bSet (bSet (bSet (bSet hb (p:=⟨W.heap.size,0,none⟩) (Nat.le_refl _) (.int .i64 3)) (p:=⟨W.heap.size,1,none⟩) (Nat.le_refl _) (.int .i64 0)) (p:=⟨W.heap.size,2,none⟩) (Nat.le_refl _) (.string ⟨#[]⟩)) (p:=⟨W.heap.size,3,none⟩) (Nat.le_refl _) (.slice A2 l.length c2)
   have BR2:=(((BR.set_ 0 (.int .i64 3)).set_ 1 (.int .i64 0)).set_ 2 (.string ⟨#[]⟩)).set_ 3 (.slice A2 l.length c2)
   go_wp2_with fail
   generalize (((wr.setCell ⟨W.heap.size,0,none⟩ (.int .i64 3)).setCell ⟨W.heap.size,1,none⟩ (.int .i64 0)).setCell ⟨W.heap.size,2,none⟩ (.string ⟨#[]⟩)).setCell ⟨W.heap.size,3,none⟩ (.slice A2 l.length c2)=w8 at *
   have r0:w8.cell? ⟨W.heap.size,0,none⟩=some (.int .i64 3):=by simpa using BR2.cell 0
   have r1:w8.cell? ⟨W.heap.size,1,none⟩=some (.int .i64 0):=by simpa using BR2.cell 1
   have r2:w8.cell? ⟨W.heap.size,2,none⟩=some (.string ⟨#[]⟩):=by simpa using BR2.cell 2
   have r3:w8.cell? ⟨W.heap.size,3,none⟩=some (.slice A2 l.length c2):=by simpa using BR2.cell 3
   exact bodyPost_ret (v:=listV A2 l.length c2) (by simp [results,Tryz.results115,go_sem,listV,r0,r1,r2,r3]) rfl ⟨A2,c2,by rw [hlm.out],hb2,by rw [hlm.out];exact own_base hown2 (by omega)⟩
theorem ref_ints (A:Option Addr) (n c:Nat) (l:List Int) (W:World) (hA:Rd W W.heap.size 1 A n (ints l)) (hn:n≤100) :
  Calls Tryz.prog 115 #[.slice A n c] W (RetV (l.map It.int) W):=by
 refine (ref_intsO A n c l W hA hn).mono ?_
 rintro e w ⟨A2,c2,rfl,hb,ho⟩
 obtain ⟨A3,c3,hv,hR,_⟩:=Sl.of_own ho
 injection hv with hA3 _ hc3
 subst hA3;subst hc3
 exact ⟨_,_,rfl,hb,hR⟩
theorem ref_text (A:Option Addr) (n c:Nat) (l:List Int) (W:World) (hA:Rd W W.heap.size 1 A n (ints l)) (hok:∀ x∈l,inI x) (hn:n≤100) :
  Calls Tryz.prog 158 #[.slice A n c] W (RetSl 1 (encN (l.map It.int)).length (byts (encN (l.map It.int))) W):=by
 have hl:l.length≤100:=by have:=hA.1;rw [ints_length,Nat.mul_one] at this;omega
 have q:=ref_ints A n c l W hA hn
 go_enter Tryz.func158,Tryz.ntmps158
 go_wp2_with fail
 with_reducible refine q.mono ?_
 rintro e w2 ⟨A2,c2,rfl,b2,hR⟩
 have q2:=ref_encode A2 (l.map It.int).length c2 (l.map It.int) w2 hR (by
  intro x hx
  obtain ⟨y,hy,rfl⟩:=List.mem_map.1 hx
  exact hok y hy) (by rw [List.length_map];omega)
 unfold listV at q2 ⊢
 rw [List.length_map] at q2
 clear q
 go_wp2_with fail
 with_reducible refine q2.mono ?_
 rintro e w3 ⟨v3,rfl,b3,hS⟩
 have hb3:=bCall b2 b3
 clear q2
 go_wp2_with fail
 go_ret
 exact ⟨_,rfl,hb3,hS⟩
theorem convert_row {w:World} {A:Option Addr} {c:Nat} {d:List Nat} (h:Rd w w.heap.size 1 A 32 (byts d)) (hl:d.length=32) (ho:okB d):(convert 123 9 (.slice A 32 c)).run Tryz.prog w = .ok (.string (dgS d)) w:=by
 obtain ⟨b,off,rfl,_,hc⟩:=h.2 (by omega)
 have:=run_convert_bytes_back (P:=Tryz.prog) w 123 9 5 ⟨b,off,none⟩ c (dgB d) Tryz.underlying123 Tryz.underlying5 Tryz.underlying9 (fun j hj=>by
  have hj':j<d.length:=by simpa [dgB] using hj
  rw [addr_plus,dgB_at ho j hj]
  refine hc j _ ?_
  simp [byts,hj'])
 rw [show (dgB d).length=32 by simp [dgB,hl]] at this
 exact this
theorem ref_vtext (d:List Nat) (W:World) (hd:d.length=32) (ho:okB d):Calls Tryz.prog 179 #[.agg (byts d).toArray] W (Ret (textV (dgS d)) W):=by
 have HL:=Lib.hid hd
 have BD:=(Blk.new W 49 (byts d).toArray _ rfl).alloc (.cells #[.int .i64 0,.int .i64 0,.string ⟨#[]⟩,.slice none 0 0] 162)
 have BR:=Blk.new (W.alloc (.cells (byts d).toArray 49)) 162 #[.int .i64 0,.int .i64 0,.string ⟨#[]⟩,.slice none 0 0] (W.heap.size+1) (by simp)
 have hb:=bAl (bAl (bRefl W) (.cells (byts d).toArray 49)) (.cells #[.int .i64 0,.int .i64 0,.string ⟨#[]⟩,.slice none 0 0] 162)
 clear hd
 go_enter Tryz.func179,Tryz.ntmps179
 go_upto_region 1 with fail
 generalize (W.alloc (.cells (byts d).toArray 49)).alloc (.cells #[.int .i64 0,.int .i64 0,.string ⟨#[]⟩,.slice none 0 0] 162)=w1 at *
 have hown0:=World.ownsRow_lit (base:=W.heap.size+2) (e:=5) (size:=1) w1 #[] 0 BR.lt (by unfold maxLen;omega) rfl
 have hb1:=bAl hb (.cells #[] 5)
 have BD1:=BD.alloc (.cells #[] 5)
 have BR1:=BR.alloc (.cells #[] 5)
 go_wp2_with fail
 clear hb BD BR
 generalize w1.alloc (.cells #[] 5)=w2 at *
 go_loopw [3,4] (fun v i wr=>∃ k:Nat,k≤32∧i = .int .i64 k∧wr.ownsRow (W.heap.size+2) 5 1 v k (byts (d.take k))∧Below W.heap.size W wr∧Blk wr W.heap.size 49 (byts d).toArray∧Blk wr (W.heap.size+1) 162 #[.int .i64 0,.int .i64 0,.string ⟨#[]⟩,.slice none 0 0]) (fun _ i _=>32 - (intOf i).toNat)
 case atStart=>exact ⟨0,Nat.zero_le _,rfl,hown0,hb1,BD1,BR1⟩
 case round =>
  clear hown0 hb1 BD1 BR1
  obtain ⟨k,hk,rfl,hown,hb,BD,BR⟩:=hrel
  by_cases hlt:k<32
  ·obtain ⟨x,hx⟩:∃ x,Hid (d[k]?=some x):=⟨_,Lib.hid (List.getElem?_eq_getElem (by rw [HL.out];exact hlt))⟩
   have c0:wr.cell? ⟨W.heap.size,k,none⟩=some (.int .u8 x):=by rw [BD.cell];simpa using byts_at hx.out
   have hsn:Hid (byts (d.take (k+1))=byts (d.take k)++[.int .u8 (x:Nat)]):=by
    obtain ⟨hk,rfl⟩:=List.getElem?_eq_some_iff.1 hx.out
    show _=_
    rw [List.take_succ_eq_append_getElem hk];unfold byts;rw [List.map_append];rfl
   have hone:∀ q∈[Value.int .u8 (x:Int)],q.oneCell'=true:=by intro q hq;simp at hq;subst hq;rfl
   have h63:k+1≤maxLen:=by unfold maxLen;omega
   have hby:(k+1)*1≤140737488355328:=by omega
   have hbs:W.heap.size+2≤wr.heap.size:=BR.lt
   have i1:(k:Int)<32:=by omega
   go_wp2_with (at_builtin;refine wpList_append1G wr [.int .u8 (x:Int)] (.tmp 10) (.tmp 14) 123 (W.heap.size+2) 5 (.int .u8 0) 1 1 _ k _ rfl rfl Tryz.underlying123 byte_info rfl (by omega) rfl hown rfl rfl hone h63 hby hbs ?_;intro v' w' hown4 hg4)
   have b4:=hg4.below hown hbs
   go_roundw
   case rel=>exact ⟨k+1,by omega,by go_num,by rw [hsn.out];exact hown4,hb.trans (b4.mono (by omega)),BD.below b4 (by omega),BR.below b4 (by omega)⟩
   case measure=>simp [intOf];omega
  ·have hk32:k=32:=by omega
   have hX:byts (d.take k)=byts d:=by rw [List.take_of_length_le (by have:=HL.out;omega)]
   rw [hX,hk32] at hown
   clear hk32 hX
   obtain ⟨A2,c2,hv,hR,_⟩:=Sl.of_own hown
   subst hv
   have hcv:=convert_row (c:=c2) hR HL.out ho
   have z0:=BR.frozen 0
   have z1:=BR.frozen 1
   have z2:=BR.frozen 2
   have z3:=BR.frozen 3
   obtain ⟨y0,y1,y2,y3⟩:=box_cells BR
   have BR2:=(((BR.set_ 0 (.int .i64 2)).set_ 1 (.int .i64 0)).set_ 2 (.string (dgS d))).set_ 3 (.slice none 0 0)
   have hb2:=bSet (bSet (bSet (bSet hb (p:=⟨W.heap.size+1,0,none⟩) (by show W.heap.size≤W.heap.size+1;omega) (.int .i64 2)) (p:=⟨W.heap.size+1,1,none⟩) (by show W.heap.size≤W.heap.size+1;omega) (.int .i64 0)) (p:=⟨W.heap.size+1,2,none⟩) (by show W.heap.size≤W.heap.size+1;omega) (.string (dgS d))) (p:=⟨W.heap.size+1,3,none⟩) (by show W.heap.size≤W.heap.size+1;omega) (.slice none 0 0)
   clear hown hb BD BR hR
   go_wp2_with fail
   generalize (((wr.setCell ⟨W.heap.size+1,0,none⟩ (.int .i64 2)).setCell ⟨W.heap.size+1,1,none⟩ (.int .i64 0)).setCell ⟨W.heap.size+1,2,none⟩ (.string (dgS d))).setCell ⟨W.heap.size+1,3,none⟩ (.slice none 0 0)=w8 at *
   have r0:w8.cell? ⟨W.heap.size+1,0,none⟩=some (.int .i64 2):=by simpa using BR2.cell 0
   have r1:w8.cell? ⟨W.heap.size+1,1,none⟩=some (.int .i64 0):=by simpa using BR2.cell 1
   have r2:w8.cell? ⟨W.heap.size+1,2,none⟩=some (.string (dgS d)):=by simpa using BR2.cell 2
   have r3:w8.cell? ⟨W.heap.size+1,3,none⟩=some (.slice none 0 0):=by simpa using BR2.cell 3
   exact bodyPost_ret (v:=textV (dgS d)) (by simp [results,Tryz.results179,go_sem,textV,r0,r1,r2,r3]) rfl ⟨rfl,hb2⟩
theorem ref_hash (s:ByteArray) (A:Option Addr) (n c:Nat) (l:List Nat) (W:World) (hA:Rd W W.heap.size 1 A n (byts l)) (hnil:A=none→n=0∧c=0) (ho:okB l) (hs:s.size≤1000000) (hn:n≤70368744177600) :
  Calls Tryz.prog 142 #[.string s,.slice A n c] W (Ret (.int .i64 (hashV (sb s) l:Nat)) W):=by
 have q:=ref_tagged s A n c l W hA hnil ho hs hn
 obtain ⟨d,hd⟩:∃ d,Hid (d=taggedN (sb s) l):=⟨_,Lib.hid rfl⟩
 have hdl:Hid (d.length=32):=by show _=_;rw [hd.out,taggedN_len]
 have hdo:okB d:=by rw [hd.out];exact okB_sha _
 rw [←hd.out] at q
 go_enter Tryz.func142,Tryz.ntmps142
 go_wp2_with fail
 with_reducible refine q.mono ?_
 rintro e w1 ⟨rfl,hb⟩
 clear q
 unfold dig
 have st1:=store_dig d hdl.out
 have ln1:(byts d).length=32:=by rw [byts_length,hdl.out]
 go_upto_region 2 with fail
 have BT:=Blk.new w1 49 (byts d).toArray _ rfl
 have hb2:=bAl hb (.cells (byts d).toArray 49)
 clear hb st1 ln1
 generalize w1.alloc (.cells (byts d).toArray 49)=w2 at *
 generalize w1.heap.size=bt at *
 obtain ⟨x,hx⟩:∃ x,Hid (d[0]?=some x):=⟨_,Lib.hid (List.getElem?_eq_getElem (by rw [hdl.out];omega))⟩
 have hx8:x<256:=hdo x (List.mem_of_getElem? hx.out)
 have c0:w2.cell? ⟨bt,0,none⟩=some (.int .u8 x):=by rw [BT.cell];simpa using byts_at hx.out
 have h1:Hid (((accB (headN d) 1:Nat):Int)=(x:Int) % 128):=by
  show _=_
  have e:accB (headN d) 1=x % 128:=by
   show 0*256+(headN d)[0]?.getD 0=_
   unfold headN
   rw [hx.out];simp
  rw [e];omega
 have hho:=okB_head hdo
 go_wp2_with fail
 go_loop [6,7] (fun s i=>∃ k:Nat,1≤k∧k≤8∧i = .int .i64 k∧s = .int .i64 (accB (headN d) k:Nat)) (fun _ i=>8 - (intOf i).toNat)
 case atStart=>exact ⟨1,Nat.le_refl _,by omega,rfl,by rw [h1.out]⟩
 case round =>
  clear c0
  obtain ⟨k,hk1,hk,rfl,rfl⟩:=hrel
  by_cases hlt:k<8
  ·obtain ⟨y,hy⟩:∃ y,Hid (d[k]?=some y):=⟨_,Lib.hid (List.getElem?_eq_getElem (by rw [hdl.out];omega))⟩
   have hy8:y<256:=hdo y (List.mem_of_getElem? hy.out)
   have c0:w2.cell? ⟨bt,k,none⟩=some (.int .u8 y):=by rw [BT.cell];simpa using byts_at hy.out
   have hacc:accB (headN d) k≤36028797018963967:=by
    rcases k with _ | k
    ·simp [accB]
    ·have h:=accB_head d hdo k
     have h2:128*256 ^ k≤128*256 ^ 6:=Nat.mul_le_mul_left _ (Nat.pow_le_pow_right (by omega) (by omega))
     have h3:128*256 ^ 6=36028797018963968:=by decide
     omega
   have hs:Hid ((accB (headN d) k:Int)*256+(y:Int)=((accB (headN d) (k+1):Nat):Int)):=by
    show _=((accB (headN d) k*256+(headN d)[k]?.getD 0:Nat):Int)
    have e:(headN d)[k]?=some y:=by
     unfold headN
     cases k with
     | zero=>omega
     | succ k=>rw [List.getElem?_cons_succ,List.getElem?_drop,Nat.add_comm];exact hy.out
    rw [e];simp
   have hkI:(k:Int)<32:=by omega
   go_wp2_with fail
   exact ⟨⟨k+1,by omega,by omega,by go_num,by rw [←hs.out]⟩,by simp [intOf];omega⟩
  ·have hk8:Hid (accB (headN d) k % 1073741789=hashV (sb s) l):=by
    have e:k=8:=by omega
    show _=_
    rw [e]
    unfold hashV hashN
    rw [←hd.out]
   go_wp2_with fail
   go_ret
   exact ⟨ret_int (by rw [←hk8.out];simp),hb2⟩
def set4 (w:World) (b:Nat) (v0 v1 v2 v3:Value):World :=
 (((w.setCell ⟨b,0,none⟩ v0).setCell ⟨b,1,none⟩ v1).setCell ⟨b,2,none⟩ v2).setCell ⟨b,3,none⟩ v3
theorem Blk.set4 {w:World} {b:Nat} {t:TypeId} {u0 u1 u2 u3:Value} (h:Blk w b t #[u0,u1,u2,u3]) (v0 v1 v2 v3:Value):Blk (Proofs.YtoeobcmmafncmaaGreatDoor.set4 w b v0 v1 v2 v3) b t #[v0,v1,v2,v3]:=by
 have:=(((h.set_ 0 v0).set_ 1 v1).set_ 2 v2).set_ 3 v3
 unfold Proofs.YtoeobcmmafncmaaGreatDoor.set4
 simpa using this
theorem bSet4 {a w:World} (h:Below a.heap.size a w) {b:Nat} (hb:a.heap.size≤b) (v0 v1 v2 v3:Value):Below a.heap.size a (set4 w b v0 v1 v2 v3) :=
 bSet (bSet (bSet (bSet h (p:=⟨b,0,none⟩) hb _) (p:=⟨b,1,none⟩) hb _) (p:=⟨b,2,none⟩) hb _) (p:=⟨b,3,none⟩) hb _
theorem Rd.far {w:World} {B sz n b off:Nat} {xs:List Value} (h:Rd w B sz (some ⟨b,off,none⟩) n xs) {p:Addr} (hp:b≠p.block) (u:Value):Rd (w.setCell p u) B sz (some ⟨b,off,none⟩) n xs :=
 ⟨h.1,fun hn=>by
  obtain ⟨b',off',e,hb,hc⟩:=h.2 hn
  injection e with e
  injection e with e1 e2
  subst e1;subst e2
  refine ⟨_,_,rfl,hb,fun j v hj=>?_⟩
  rw [←hc j v hj]
  have:=Below.heap_setCell w p u b hp
  unfold World.cell?
  simp only [this]⟩
theorem Rd.far4 {w:World} {sz n b g off:Nat} {xs:List Value} (h:Rd w w.heap.size sz (some ⟨b,off,none⟩) n xs) (hp:b≠g) (v0 v1 v2 v3:Value):Rd (set4 w g v0 v1 v2 v3) (set4 w g v0 v1 v2 v3).heap.size sz (some ⟨b,off,none⟩) n xs :=
 ((((h.far (p:=⟨g,0,none⟩) hp v0).far (p:=⟨g,1,none⟩) hp v1).far (p:=⟨g,2,none⟩) hp v2).far (p:=⟨g,3,none⟩) hp v3).more (by simp [set4,World.setCell])
theorem opn_loads {w:World} {b:Nat} {o:Opn} (ho:o.ok) (B:Blk w b 84 o.cl.toArray) :
  (Instr.loadAt 49 (.pointer (some ⟨b,4,none⟩))).run Tryz.prog w = .ok (.agg (byts o.salt).toArray) w∧w.cell? ⟨b,0,none⟩=some (.int .i64 o.at_)∧w.cell? ⟨b,1,none⟩=some (.int .i64 o.r0)∧w.cell? ⟨b,2,none⟩=some (.int .i64 o.r1)∧w.cell? ⟨b,3,none⟩=some (.int .i64 o.r2):=by
 refine ⟨load_mid B o.salt ho.2.2.2.2.1 (fun j v hj=>?_),B.cell 0,B.cell 1,B.cell 2,B.cell 3⟩
 simp only [Opn.cl,List.getElem?_toArray]
 rw [List.getElem?_append_right (by simp),List.length_cons,List.length_cons,List.length_cons,List.length_cons,List.length_nil]
 rw [show 4+j - (0+1+1+1+1)=j by omega];exact hj
def Opn.its2 (o:Opn):List It:=[.int o.at_,.int o.r0,.int o.r1,.int o.r2,.text (dgS o.salt)]
theorem Opn.its2_eq (o:Opn):o.its2=o.its.map Nd.it:=rfl
theorem ref_value (o:Opn) (W:World) (ho:o.ok):Calls Tryz.prog 160 #[.agg o.cl.toArray] W (RetV o.its2 W):=by
 have BO:=(Blk.new W 84 o.cl.toArray _ rfl).alloc (.cells #[.int .i64 0,.int .i64 0,.string ⟨#[]⟩,.slice none 0 0] 162)
 have BR:=Blk.new (W.alloc (.cells o.cl.toArray 84)) 162 #[.int .i64 0,.int .i64 0,.string ⟨#[]⟩,.slice none 0 0] (W.heap.size+1) (by simp)
 have hb:=bAl (bAl (bRefl W) (.cells o.cl.toArray 84)) (.cells #[.int .i64 0,.int .i64 0,.string ⟨#[]⟩,.slice none 0 0] 162)
 go_enter Tryz.func160,Tryz.ntmps160
 go_upto_region 1 with fail
 generalize (W.alloc (.cells o.cl.toArray 84)).alloc (.cells #[.int .i64 0,.int .i64 0,.string ⟨#[]⟩,.slice none 0 0] 162)=w2 at *
 have KS:Hid (∀ w',Below w2.heap.size w2 w'→_):=Lib.hid (fun w' h=>opn_loads ho (BO.below h BO.lt))
 have o5:=ho.2.2.2.2.1
 have o6:=ho.2.2.2.2.2
 have q2:=fun w=>ref_vtext o.salt w o5 o6
 unfold textV at q2
 have q1:∀ n w,_:=ref_vnum
 unfold intV at q1
 have q3:∀ A n c w,_:=ref_vlist
 unfold listV at q3
 clear o5 o6
 refine wp_region_schB (f:=20) KS [(0,1),(1,2),(3,1),(4,1),(5,2),(7,1),(8,1),(9,2),(11,1),(12,1),(13,2),(15,1),(16,2),(2,0),(6,0),(10,0),(14,0),(17,0),(18,0),(19,0),(20,3)] ?_
 simp only [pickS,List.getElem?_cons_zero,List.getElem?_cons_succ]
 refine wpSched_t ?_
 refine wpSched_r ?_
 iterate 2 refine wpSched_t ?_
 refine wpSched_r ?_
 iterate 2 refine wpSched_t ?_
 refine wpSched_r ?_
 iterate 2 refine wpSched_t ?_
 refine wpSched_r ?_
 refine wpSched_t ?_
 refine wpSched_r (v:=?v1) (hv:=?h1) ?_;case h1=>(intro w hSw;(first | refine (exec_load rfl rfl hSw).trans ?_ | refine (exec_load rfl rfl hSw.1).trans ?_ | refine (exec_load rfl rfl hSw.2.1).trans ?_ | refine (exec_load rfl rfl hSw.2.2.1).trans ?_ | refine (exec_load rfl rfl hSw.2).trans ?_ | refine (exec_load rfl rfl hSw.2.2).trans ?_);with_reducible rfl)
 refine wpSched_force (fun K hK=>?_)
 go_simp;(first | (go_at_call 178;(with_reducible refine (q1 _ _).mono ?_);rintro e w9 ⟨rfl,b9⟩;have B7:Below w2.heap.size w2 w9:=bCall (by repeat (first | with_reducible exact B7 | with_reducible exact bRefl _ | with_reducible refine bDr ?_ | with_reducible refine bAl ?_ _)) b9) | (go_at_call 179;(with_reducible refine (q2 _).mono ?_);rintro e w9 ⟨rfl,b9⟩;have B7:Below w2.heap.size w2 w9:=bCall (by repeat (first | with_reducible exact B7 | with_reducible exact bRefl _ | with_reducible refine bDr ?_ | with_reducible refine bAl ?_ _)) b9) | (go_at_call 177;(with_reducible refine (q3 _ _ _ _).mono ?_);rintro e w8 ⟨rfl,b8⟩;have HR:Rd w8 w8.heap.size 4 (some ⟨w9.heap.size,0,none⟩) 5 (o.its2.flatMap It.cells):=((Rd.new w9 (o.its2.flatMap It.cells) 162 4 5 _ rfl rfl).below b8).more b8.size;have B8:Below w2.heap.size w2 w8:=bCall (by repeat (first | with_reducible exact B7 | with_reducible exact bRefl _ | with_reducible refine bDr ?_ | with_reducible refine bAl ?_ _)) b8) | skip)
 refine shut_go hK KS ?_
 clear hK K
 refine wpSched_force (fun K hK=>?_)
 go_simp;(first | (go_at_call 178;(with_reducible refine (q1 _ _).mono ?_);rintro e w9 ⟨rfl,b9⟩;have B7:Below w2.heap.size w2 w9:=bCall (by repeat (first | with_reducible exact B7 | with_reducible exact bRefl _ | with_reducible refine bDr ?_ | with_reducible refine bAl ?_ _)) b9) | (go_at_call 179;(with_reducible refine (q2 _).mono ?_);rintro e w9 ⟨rfl,b9⟩;have B7:Below w2.heap.size w2 w9:=bCall (by repeat (first | with_reducible exact B7 | with_reducible exact bRefl _ | with_reducible refine bDr ?_ | with_reducible refine bAl ?_ _)) b9) | (go_at_call 177;(with_reducible refine (q3 _ _ _ _).mono ?_);rintro e w8 ⟨rfl,b8⟩;have HR:Rd w8 w8.heap.size 4 (some ⟨w9.heap.size,0,none⟩) 5 (o.its2.flatMap It.cells):=((Rd.new w9 (o.its2.flatMap It.cells) 162 4 5 _ rfl rfl).below b8).more b8.size;have B8:Below w2.heap.size w2 w8:=bCall (by repeat (first | with_reducible exact B7 | with_reducible exact bRefl _ | with_reducible refine bDr ?_ | with_reducible refine bAl ?_ _)) b8) | skip)
 refine shut_go hK KS ?_
 clear hK K
 refine wpSched_force (fun K hK=>?_)
 go_simp;(first | (go_at_call 178;(with_reducible refine (q1 _ _).mono ?_);rintro e w9 ⟨rfl,b9⟩;have B7:Below w2.heap.size w2 w9:=bCall (by repeat (first | with_reducible exact B7 | with_reducible exact bRefl _ | with_reducible refine bDr ?_ | with_reducible refine bAl ?_ _)) b9) | (go_at_call 179;(with_reducible refine (q2 _).mono ?_);rintro e w9 ⟨rfl,b9⟩;have B7:Below w2.heap.size w2 w9:=bCall (by repeat (first | with_reducible exact B7 | with_reducible exact bRefl _ | with_reducible refine bDr ?_ | with_reducible refine bAl ?_ _)) b9) | (go_at_call 177;(with_reducible refine (q3 _ _ _ _).mono ?_);rintro e w8 ⟨rfl,b8⟩;have HR:Rd w8 w8.heap.size 4 (some ⟨w9.heap.size,0,none⟩) 5 (o.its2.flatMap It.cells):=((Rd.new w9 (o.its2.flatMap It.cells) 162 4 5 _ rfl rfl).below b8).more b8.size;have B8:Below w2.heap.size w2 w8:=bCall (by repeat (first | with_reducible exact B7 | with_reducible exact bRefl _ | with_reducible refine bDr ?_ | with_reducible refine bAl ?_ _)) b8) | skip)
 refine shut_go hK KS ?_
 clear hK K
 refine wpSched_force (fun K hK=>?_)
 go_simp;(first | (go_at_call 178;(with_reducible refine (q1 _ _).mono ?_);rintro e w9 ⟨rfl,b9⟩;have B7:Below w2.heap.size w2 w9:=bCall (by repeat (first | with_reducible exact B7 | with_reducible exact bRefl _ | with_reducible refine bDr ?_ | with_reducible refine bAl ?_ _)) b9) | (go_at_call 179;(with_reducible refine (q2 _).mono ?_);rintro e w9 ⟨rfl,b9⟩;have B7:Below w2.heap.size w2 w9:=bCall (by repeat (first | with_reducible exact B7 | with_reducible exact bRefl _ | with_reducible refine bDr ?_ | with_reducible refine bAl ?_ _)) b9) | (go_at_call 177;(with_reducible refine (q3 _ _ _ _).mono ?_);rintro e w8 ⟨rfl,b8⟩;have HR:Rd w8 w8.heap.size 4 (some ⟨w9.heap.size,0,none⟩) 5 (o.its2.flatMap It.cells):=((Rd.new w9 (o.its2.flatMap It.cells) 162 4 5 _ rfl rfl).below b8).more b8.size;have B8:Below w2.heap.size w2 w8:=bCall (by repeat (first | with_reducible exact B7 | with_reducible exact bRefl _ | with_reducible refine bDr ?_ | with_reducible refine bAl ?_ _)) b8) | skip)
 refine shut_go hK KS ?_
 clear hK K
 refine wpSched_force (fun K hK=>?_)
 go_simp;(first | (go_at_call 178;(with_reducible refine (q1 _ _).mono ?_);rintro e w9 ⟨rfl,b9⟩;have B7:Below w2.heap.size w2 w9:=bCall (by repeat (first | with_reducible exact B7 | with_reducible exact bRefl _ | with_reducible refine bDr ?_ | with_reducible refine bAl ?_ _)) b9) | (go_at_call 179;(with_reducible refine (q2 _).mono ?_);rintro e w9 ⟨rfl,b9⟩;have B7:Below w2.heap.size w2 w9:=bCall (by repeat (first | with_reducible exact B7 | with_reducible exact bRefl _ | with_reducible refine bDr ?_ | with_reducible refine bAl ?_ _)) b9) | (go_at_call 177;(with_reducible refine (q3 _ _ _ _).mono ?_);rintro e w8 ⟨rfl,b8⟩;have HR:Rd w8 w8.heap.size 4 (some ⟨w9.heap.size,0,none⟩) 5 (o.its2.flatMap It.cells):=((Rd.new w9 (o.its2.flatMap It.cells) 162 4 5 _ rfl rfl).below b8).more b8.size;have B8:Below w2.heap.size w2 w8:=bCall (by repeat (first | with_reducible exact B7 | with_reducible exact bRefl _ | with_reducible refine bDr ?_ | with_reducible refine bAl ?_ _)) b8) | skip)
 refine shut_go hK KS ?_
 clear hK K
 refine wpSched_force (fun K hK=>?_)
 go_simp;(first | (go_at_call 178;(with_reducible refine (q1 _ _).mono ?_);rintro e w9 ⟨rfl,b9⟩;have B7:Below w2.heap.size w2 w9:=bCall (by repeat (first | with_reducible exact B7 | with_reducible exact bRefl _ | with_reducible refine bDr ?_ | with_reducible refine bAl ?_ _)) b9) | (go_at_call 179;(with_reducible refine (q2 _).mono ?_);rintro e w9 ⟨rfl,b9⟩;have B7:Below w2.heap.size w2 w9:=bCall (by repeat (first | with_reducible exact B7 | with_reducible exact bRefl _ | with_reducible refine bDr ?_ | with_reducible refine bAl ?_ _)) b9) | (go_at_call 177;(with_reducible refine (q3 _ _ _ _).mono ?_);rintro e w8 ⟨rfl,b8⟩;have HR:Rd w8 w8.heap.size 4 (some ⟨w9.heap.size,0,none⟩) 5 (o.its2.flatMap It.cells):=((Rd.new w9 (o.its2.flatMap It.cells) 162 4 5 _ rfl rfl).below b8).more b8.size;have B8:Below w2.heap.size w2 w8:=bCall (by repeat (first | with_reducible exact B7 | with_reducible exact bRefl _ | with_reducible refine bDr ?_ | with_reducible refine bAl ?_ _)) b8) | skip)
 refine shut_go hK KS ?_
 clear hK K
 refine wpSched_force (fun K hK=>?_)
 go_simp;(first | (go_at_call 178;(with_reducible refine (q1 _ _).mono ?_);rintro e w9 ⟨rfl,b9⟩;have B7:Below w2.heap.size w2 w9:=bCall (by repeat (first | with_reducible exact B7 | with_reducible exact bRefl _ | with_reducible refine bDr ?_ | with_reducible refine bAl ?_ _)) b9) | (go_at_call 179;(with_reducible refine (q2 _).mono ?_);rintro e w9 ⟨rfl,b9⟩;have B7:Below w2.heap.size w2 w9:=bCall (by repeat (first | with_reducible exact B7 | with_reducible exact bRefl _ | with_reducible refine bDr ?_ | with_reducible refine bAl ?_ _)) b9) | (go_at_call 177;(with_reducible refine (q3 _ _ _ _).mono ?_);rintro e w8 ⟨rfl,b8⟩;have HR:Rd w8 w8.heap.size 4 (some ⟨w9.heap.size,0,none⟩) 5 (o.its2.flatMap It.cells):=((Rd.new w9 (o.its2.flatMap It.cells) 162 4 5 _ rfl rfl).below b8).more b8.size;have B8:Below w2.heap.size w2 w8:=bCall (by repeat (first | with_reducible exact B7 | with_reducible exact bRefl _ | with_reducible refine bDr ?_ | with_reducible refine bAl ?_ _)) b8) | skip)
 refine shut_go hK KS ?_
 clear hK K
 refine wpSched_last ?_
 first | simp only [List.map_nil] | simp only [List.map_cons,List.map_nil]
 have BR2:=BR.below B8 BR.lt
 have hb2:=bCall hb B8
 have hne:w9.heap.size≠W.heap.size+1:=by have:=BR.lt;have:=B7.size;omega
 have z0:=BR2.frozen 0
 have z1:=BR2.frozen 1
 have z2:=BR2.frozen 2
 have z3:=BR2.frozen 3
 obtain ⟨y0,y1,y2,y3⟩:=box_cells BR2
 generalize w9.heap.size=g9 at *
 clear KS B7 B8 BR BO hb q1 q2 q3
 have BN:=BR2.set4 (.int .i64 3) (.int .i64 0) (.string ⟨#[]⟩) (.slice (some ⟨g9,0,none⟩) 5 5)
 have HN:=HR.far4 hne (.int .i64 3) (.int .i64 0) (.string ⟨#[]⟩) (.slice (some ⟨g9,0,none⟩) 5 5)
 have hbN:=bSet4 hb2 (show W.heap.size≤W.heap.size+1 by omega) (.int .i64 3) (.int .i64 0) (.string ⟨#[]⟩) (.slice (some ⟨g9,0,none⟩) 5 5)
 go_wp2_with fail
 refine NoPanic.normal ?_
 go_wp2_with fail
 change bodyPost _ _ _ _ _ (set4 w8 (W.heap.size+1) (.int .i64 3) (.int .i64 0) (.string ⟨#[]⟩) (.slice (some ⟨g9,0,none⟩) 5 5))
 generalize set4 w8 (W.heap.size+1) (.int .i64 3) (.int .i64 0) (.string ⟨#[]⟩) (.slice (some ⟨g9,0,none⟩) 5 5)=w7 at *
 obtain ⟨r0,r1,r2,r3⟩:=box_cells BN
 exact bodyPost_ret (v:=listV (some ⟨g9,0,none⟩) 5 5) (by simp [results,Tryz.results160,go_sem,listV,r0,r1,r2,r3]) rfl ⟨_,_,rfl,hbN,HN⟩
theorem ref_vtagged (s:ByteArray) (A:Option Addr) (n c:Nat) (l:List It) (W:World) (hA:Rd W W.heap.size 4 A n (l.flatMap It.cells)) (hok:∀ x∈l,x.ok) (hn:n≤1000) (hs:s.size≤1000000) :
  Calls Tryz.prog 159 #[.string s,listV A n c] W (Ret (dig (taggedN (sb s) (encN l))) W):=by
 have hln:l.length=n:=by have:=hA.1;rw [flat_len It.cells_length] at this;omega
 obtain ⟨R0,hR0⟩:∃ R0,Hid (R0=taggedN (sb s) (encN l)):=⟨_,Lib.hid rfl⟩
 rw [←hR0.out]
 have hA2:=(((hA.alloc (Nat.le_refl _) (.cells #[.int .i64 3,.int .i64 0,.string ⟨#[]⟩,.slice A n c] 162)).more (B':=(W.alloc (.cells #[.int .i64 3,.int .i64 0,.string ⟨#[]⟩,.slice A n c] 162)).heap.size) (by simp)).alloc (Nat.le_refl _) (.cells (byts (zerosN 32)).toArray 49))
 have BX:=(Blk.new W 162 #[.int .i64 3,.int .i64 0,.string ⟨#[]⟩,.slice A n c] _ rfl).alloc (.cells (byts (zerosN 32)).toArray 49)
 have BD:=Blk.new (W.alloc (.cells #[.int .i64 3,.int .i64 0,.string ⟨#[]⟩,.slice A n c] 162)) 49 (byts (zerosN 32)).toArray (W.heap.size+1) (by simp)
 have hb:=bAl (bAl (bRefl W) (.cells #[.int .i64 3,.int .i64 0,.string ⟨#[]⟩,.slice A n c] 162)) (.cells (byts (zerosN 32)).toArray 49)
 have hel:=encN_len hok (by omega)
 have hoE:=okB_encN l
 unfold listV
 go_enter Tryz.func159,Tryz.ntmps159
 go_upto_region 1 with fail
 change Code.wp _ _ _ _ ((W.alloc (.cells #[.int .i64 3,.int .i64 0,.string ⟨#[]⟩,.slice A n c] 162)).alloc (.cells (byts (zerosN 32)).toArray 49))
 generalize (W.alloc (.cells #[.int .i64 3,.int .i64 0,.string ⟨#[]⟩,.slice A n c] 162)).alloc (.cells (byts (zerosN 32)).toArray 49)=w1 at *
 have q:=ref_encode A n c l w1 (hA2.more (by have:=BD.lt;simp;omega)) hok hn
 unfold listV at q
 obtain ⟨m0,m1,m2,m3⟩:=box_cells BX
 obtain ⟨E,hE⟩:∃ E,Hid (E=encN l):=⟨_,Lib.hid rfl⟩
 rw [←hE.out] at q hel hoE hR0
 clear hln
 go_wp2_with fail
 (with_reducible refine q.mono ?_)
 rintro e w2 ⟨v,rfl,b2,A2,c2,rfl,hR,_,_,hnil⟩
 have hb2:=bCall hb b2
 have BD2:=BD.below b2 BD.lt
 have q2:=ref_tagged s A2 E.length c2 E w2 hR hnil hoE hs (Nat.le_trans hel (by decide))
 clear q hb b2 BD BX m0 m1 m2 m3
 go_wp2_with fail
 (with_reducible refine q2.mono ?_)
 rintro e w3 ⟨rfl,b3⟩
 have hb3:=bCall hb2 b3
 have BD3:=BD2.below b3 BD2.lt
 clear q2
 unfold dig
 have hTl:=taggedN_len (sb s) E
 generalize taggedN (sb s) E=T at *
 have HT:=Lib.hid hTl
 clear hTl
 dsimp only
 (refine ‹∀ (a:Act) (w:World),wpList _ _ _ _ a w→_› _ _ ?_)
 refine wpList_store_row rfl 49 (.tmp 4) (.tmp 14) rfl (W.heap.size+1) (byts T).toArray rfl rfl 49 _ BD3 (by rw [List.size_toArray,byts_length,HT.out];exact dig_info) (by rw [List.size_toArray,List.size_toArray,byts_length,byts_length,HT.out];rfl) (byts_one _) ?_
 have hb9:=below_setRow hb3 (show W.heap.size≤W.heap.size+1 by omega) (byts T).toArray
 have BD9:Blk (w3.setRow (W.heap.size+1) (byts T).toArray) (W.heap.size+1) 49 (byts T).toArray:=setRow_heap w3 (W.heap.size+1) _ _ 49 _ BD3
 go_wp2_with fail
 exact bodyPost_ret (v := .agg (byts T).toArray) (results_cell_row rfl _ _ (W.heap.size+1) 49 _ (0,0) _ rfl BD9 dig_under rfl (by rw [List.size_toArray,byts_length,HT.out];exact dig_info)) rfl ⟨by rw [hR0.out];rfl,hb9⟩
theorem Opn.cl_length' {o:Opn} (h:o.ok):o.cl.length=36:=by
 obtain ⟨_,_,_,_,h,_⟩:=h
 simp [Opn.cl,byts_length,h]
theorem opn_info':(Tryz.prog.info? 84).map (·.size)=some 36:=by kernel_rfl
theorem ref_commit0 (o:Opn) (W:World) (ho:o.ok) :
  Calls Tryz.prog 140 #[.int .i64 0,.agg o.cl.toArray] W (Ret (dig (taggedN (sb ⟨#[108,101,102,116]⟩) (encN (o.its.map Nd.it)))) W):=by
 obtain ⟨R0,hR0⟩:∃ R0,Hid (R0=taggedN (sb ⟨#[108,101,102,116]⟩) (encN o.its2)):=⟨_,Lib.hid rfl⟩
 rw [←o.its2_eq,←hR0.out]
 have hits:∀ x∈o.its2,x.ok:=by
  obtain ⟨o1,o2,o3,o4,o5,o6⟩:=ho
  intro x hx
  simp only [Opn.its2,List.mem_cons,List.not_mem_nil,or_false] at hx
  rcases hx with rfl | rfl | rfl | rfl | rfl
  ·exact o1
  ·exact o2
  ·exact o3
  ·exact o4
  ·exact Nd.it_ok (x := .dig o.salt) ⟨o5,o6⟩
 have hl5:o.its2.length≤1000:=by simp [Opn.its2]
 have BO:=(Blk.new W 84 o.cl.toArray _ rfl).alloc (.cells (byts (zerosN 32)).toArray 49)
 have BD:=Blk.new (W.alloc (.cells o.cl.toArray 84)) 49 (byts (zerosN 32)).toArray (W.heap.size+1) (by simp)
 have hb:=bAl (bAl (bRefl W) (.cells o.cl.toArray 84)) (.cells (byts (zerosN 32)).toArray 49)
 go_enter Tryz.func140,Tryz.ntmps140
 go_upto_region 1 with fail
 change Code.wp _ _ _ _ ((W.alloc (.cells o.cl.toArray 84)).alloc (.cells (byts (zerosN 32)).toArray 49))
 generalize (W.alloc (.cells o.cl.toArray 84)).alloc (.cells (byts (zerosN 32)).toArray 49)=w1 at *
 have LO:(Instr.loadAt 84 (.pointer (some ⟨W.heap.size,0,none⟩))).run Tryz.prog w1 = .ok (.agg o.cl.toArray) w1 :=
  run_loadAt_mid _ W.heap.size 0 84 o.cl _ (fun j v hj=>by rw [Nat.zero_add,BO.cell];simpa using hj) Tryz.underlying84 rfl (by rw [Opn.cl_length' ho];exact opn_info')
 have q:=ref_value o w1 ho
 go_upto_region 2 with fail
 apply wp_region_lit
 refine wpList_loadG (by rfl) (by rfl) (by rfl) LO ?_
 simp only [Act.put,List.setIfInBounds_toArray,List.set_cons_zero,List.set_cons_succ]
 go_wp2_with fail
 (with_reducible refine q.mono ?_)
 rintro e w2 ⟨A2,c2,rfl,b2,hR⟩
 have hb2:=bCall hb b2
 have BD2:=BD.below b2 BD.lt
 have q2:=ref_vtagged ⟨#[108,101,102,116]⟩ A2 o.its2.length c2 o.its2 w2 hR hits hl5 (by decide)
 rw [←hR0.out] at q2
 unfold listV at q2 ⊢
 have hTl:R0.length=32:=by rw [hR0.out,taggedN_len]
 clear q hR0 LO hb b2 BD BO
 go_wp2_with fail
 (with_reducible refine q2.mono ?_)
 rintro e w3 ⟨rfl,b3⟩
 have hb3:=bCall hb2 b3
 have BD3:=BD2.below b3 BD2.lt
 have HT:=Lib.hid hTl
 clear q2 hTl hb2 b3 BD2
 unfold dig
 dsimp only
 (refine ‹∀ (a:Act) (w:World),wpList _ _ _ _ a w→_› _ _ ?_)
 refine wpList_store_row rfl 49 (.tmp 4) (.tmp 9) rfl (W.heap.size+1) (byts R0).toArray rfl rfl 49 _ BD3 (by rw [List.size_toArray,byts_length,HT.out];exact dig_info) (by rw [List.size_toArray,List.size_toArray,byts_length,byts_length,HT.out];rfl) (byts_one _) ?_
 have hb9:=below_setRow hb3 (show W.heap.size≤W.heap.size+1 by omega) (byts R0).toArray
 have BD9:Blk (w3.setRow (W.heap.size+1) (byts R0).toArray) (W.heap.size+1) 49 (byts R0).toArray:=setRow_heap w3 (W.heap.size+1) _ _ 49 _ BD3
 go_wp2_with fail
 exact bodyPost_ret (v := .agg (byts R0).toArray) (results_cell_row rfl _ _ (W.heap.size+1) 49 _ (0,0) _ rfl BD9 dig_under rfl (by rw [List.size_toArray,byts_length,HT.out];exact dig_info)) rfl ⟨rfl,hb9⟩
theorem ref_commit1 (o:Opn) (W:World) (ho:o.ok) :
  Calls Tryz.prog 140 #[.int .i64 1,.agg o.cl.toArray] W (Ret (dig (taggedN (sb ⟨#[114,105,103,104,116]⟩) (encN (o.its.map Nd.it)))) W):=by
 obtain ⟨R0,hR0⟩:∃ R0,Hid (R0=taggedN (sb ⟨#[114,105,103,104,116]⟩) (encN o.its2)):=⟨_,Lib.hid rfl⟩
 rw [←o.its2_eq,←hR0.out]
 have hits:∀ x∈o.its2,x.ok:=by
  obtain ⟨o1,o2,o3,o4,o5,o6⟩:=ho
  intro x hx
  simp only [Opn.its2,List.mem_cons,List.not_mem_nil,or_false] at hx
  rcases hx with rfl | rfl | rfl | rfl | rfl
  ·exact o1
  ·exact o2
  ·exact o3
  ·exact o4
  ·exact Nd.it_ok (x := .dig o.salt) ⟨o5,o6⟩
 have hl5:o.its2.length≤1000:=by simp [Opn.its2]
 have BO:=(Blk.new W 84 o.cl.toArray _ rfl).alloc (.cells (byts (zerosN 32)).toArray 49)
 have BD:=Blk.new (W.alloc (.cells o.cl.toArray 84)) 49 (byts (zerosN 32)).toArray (W.heap.size+1) (by simp)
 have hb:=bAl (bAl (bRefl W) (.cells o.cl.toArray 84)) (.cells (byts (zerosN 32)).toArray 49)
 go_enter Tryz.func140,Tryz.ntmps140
 go_upto_region 1 with fail
 change Code.wp _ _ _ _ ((W.alloc (.cells o.cl.toArray 84)).alloc (.cells (byts (zerosN 32)).toArray 49))
 generalize (W.alloc (.cells o.cl.toArray 84)).alloc (.cells (byts (zerosN 32)).toArray 49)=w1 at *
 have LO:(Instr.loadAt 84 (.pointer (some ⟨W.heap.size,0,none⟩))).run Tryz.prog w1 = .ok (.agg o.cl.toArray) w1 :=
  run_loadAt_mid _ W.heap.size 0 84 o.cl _ (fun j v hj=>by rw [Nat.zero_add,BO.cell];simpa using hj) Tryz.underlying84 rfl (by rw [Opn.cl_length' ho];exact opn_info')
 have q:=ref_value o w1 ho
 go_upto_region 3 with fail
 apply wp_region_lit
 refine wpList_loadG (by rfl) (by rfl) (by rfl) LO ?_
 simp only [Act.put,List.setIfInBounds_toArray,List.set_cons_zero,List.set_cons_succ]
 go_wp2_with fail
 (with_reducible refine q.mono ?_)
 rintro e w2 ⟨A2,c2,rfl,b2,hR⟩
 have hb2:=bCall hb b2
 have BD2:=BD.below b2 BD.lt
 have q2:=ref_vtagged ⟨#[114,105,103,104,116]⟩ A2 o.its2.length c2 o.its2 w2 hR hits hl5 (by decide)
 rw [←hR0.out] at q2
 unfold listV at q2 ⊢
 have hTl:R0.length=32:=by rw [hR0.out,taggedN_len]
 clear q hR0 LO hb b2 BD BO
 go_wp2_with fail
 (with_reducible refine q2.mono ?_)
 rintro e w3 ⟨rfl,b3⟩
 have hb3:=bCall hb2 b3
 have BD3:=BD2.below b3 BD2.lt
 have HT:=Lib.hid hTl
 clear q2 hTl hb2 b3 BD2
 unfold dig
 dsimp only
 (refine ‹∀ (a:Act) (w:World),wpList _ _ _ _ a w→_› _ _ ?_)
 refine wpList_store_row rfl 49 (.tmp 4) (.tmp 12) rfl (W.heap.size+1) (byts R0).toArray rfl rfl 49 _ BD3 (by rw [List.size_toArray,byts_length,HT.out];exact dig_info) (by rw [List.size_toArray,List.size_toArray,byts_length,byts_length,HT.out];rfl) (byts_one _) ?_
 have hb9:=below_setRow hb3 (show W.heap.size≤W.heap.size+1 by omega) (byts R0).toArray
 have BD9:Blk (w3.setRow (W.heap.size+1) (byts R0).toArray) (W.heap.size+1) 49 (byts R0).toArray:=setRow_heap w3 (W.heap.size+1) _ _ 49 _ BD3
 go_wp2_with fail
 exact bodyPost_ret (v := .agg (byts R0).toArray) (results_cell_row rfl _ _ (W.heap.size+1) 49 _ (0,0) _ rfl BD9 dig_under rfl (by rw [List.size_toArray,byts_length,HT.out];exact dig_info)) rfl ⟨rfl,hb9⟩
end Go.Proofs.YtoeobcmmafncmaaGreatDoor

/- handover: text's closure (numbers are put behind), text; walked. -/
import Derived.Test.YtgkpomdegomgiaaGreatDoorMag
import Derived.Test.YtgkpomdegomgiaaGreatDoorMah
import Derived.Test.YtgkpomdegomgiaaGreatDoorMae
set_option maxRecDepth 1000000
set_option maxHeartbeats 16000000
namespace Go.Proofs.YtgkpomdegomgiaaGreatDoor
open Go.RowKit
def zeroV:List Value:=[.int .i64 0,.int .i64 0,.string ⟨#[]⟩,.slice none 0 0]
theorem Blk.dw {w:World} {g:Nat} {t:TypeId} {cs:Array Value} (h:Blk w g t cs):Blk w.drew g t cs:=h
theorem Blk.neT {w:World} {g g2:Nat} {t t2:TypeId} {cs cs2:Array Value} (h:Blk w g t cs) (h2:Blk w g2 t2 cs2) (hne:t≠t2):g≠g2:=by
  intro e
  subst e
  unfold Blk at h h2
  rw [h] at h2
  simp at h2
  exact hne h2.2
theorem fill4 {X:List Value} {n:Nat} (h:X.length=n*4) (u0 u1 u2 u3:Value):((((X++zeroV).set (n*4) u0).set (n*4+1) u1).set (n*4+2) u2).set (n*4+3) u3=X++[u0,u1,u2,u3]:=by
  simp [h,zeroV]
theorem ho_put (ga c:Nat) (l:List Int) (W:World) (b k0:Nat) (v0:Value) (xs:List Value) (BA:Blk W ga 3 (ints l).toArray) (hn:l.length≤100) (hk0:k0≤1000)
    (BV:Blk W b 145 #[.int .i64 3,.int .i64 0,.string ⟨#[]⟩,v0]) (hown:W.ownsRow (b+1) 145 4 v0 k0 xs) :
    Calls Tryz.prog 165 #[.slice (some ⟨ga,0,none⟩) l.length c,.pointer (some ⟨b,0,none⟩)] W (fun e w'=>e = .returned (.tuple #[])∧Below b W w'∧∃ v,Blk w' b 145 #[.int .i64 3,.int .i64 0,.string ⟨#[]⟩,v]∧w'.ownsRow (b+1) 145 4 v (k0+l.length) (xs++(l.map It.int).flatMap It.cells)):=by
  go_enter Tryz.func165,Tryz.ntmps165
  go_wp2_with fail
  have hbs0:b+1≤W.heap.size:=BV.lt
  go_loopw [7] (fun i wr=>∃ (k:Nat) (v:Value),k≤l.length∧i = .int .i64 k∧Below b W wr∧W.heap.size≤wr.heap.size∧Blk wr ga 3 (ints l).toArray∧Blk wr b 145 #[.int .i64 3,.int .i64 0,.string ⟨#[]⟩,v]∧wr.ownsRow (b+1) 145 4 v (k0+k) (xs++((l.take k).map It.int).flatMap It.cells)) (fun i _=>l.length - (intOf i).toNat)
  case atStart=>exact ⟨0,_,Nat.zero_le _,rfl,Below.refl _ _,Nat.le_refl _,BA,BV,by simpa using hown⟩
  case round =>
    clear BV BA hown
    obtain ⟨k,v,hk,rfl,hb,hsz,BA,BV,hown⟩:=hrel
    have c3:wr.cell? ⟨b,3,none⟩=some v:=BV.cell 3
    have z3:=BV.frozen 3
    by_cases hlt:k<l.length
    · obtain ⟨x,hx⟩:∃ x,Hid (l[k]?=some x):=⟨_,Lib.hid (List.getElem?_eq_getElem hlt)⟩
      have d0:wr.cell? ⟨ga,k,none⟩=some (.int .i64 x):=by rw [BA.cell k];simp [ints,hx.out]
      have hsn:Hid (xs++((l.take (k+1)).map It.int).flatMap It.cells=(xs++((l.take k).map It.int).flatMap It.cells)++(It.int x).cells):=by
        obtain ⟨hk,rfl⟩:=List.getElem?_eq_some_iff.1 hx.out
        show _=_
        rw [List.take_succ_eq_append_getElem hk,List.map_append,List.flatMap_append];simp
      have hbs:b+1≤wr.heap.size:=BV.lt
      have h63:(k0+k)+1≤maxLen:=by unfold maxLen;omega
      have hby:((k0+k)+1)*56≤140737488355328:=by omega
      generalize hX:xs++((l.take k).map It.int).flatMap It.cells=X at *
      obtain ⟨n0,hn0⟩:∃ n0,n0=k0+k:=⟨_,rfl⟩
      rw [←hn0] at hown h63 hby
      replace hn0:=Lib.hid hn0
      have hXl:X.length=n0*4:=hown.1
      obtain ⟨A2,c2,hv,_⟩:=Sl.of_own hown
      subst hv
      have KS:Hid (∀ w',Below wr.heap.size wr w'→w'.cell? ⟨b,3,none⟩=some (.slice A2 n0 c2)):=Lib.hid (fun w' h=>(BV.below h BV.lt).cell 3)
      go_upto_region 3 with fail
      clear c3 z3 d0
      have hownD:(wr.alloc (.cells #[.int .i64 0,.int .i64 0,.string ⟨#[]⟩,.slice none 0 0] 145)).drew.ownsRow (b+1) 145 4 (.slice A2 n0 c2) n0 X:=ownsRow_keep hown (bDr (bAl (bRefl wr) _))
      have BZ:Blk (wr.alloc (.cells #[.int .i64 0,.int .i64 0,.string ⟨#[]⟩,.slice none 0 0] 145)).drew wr.heap.size 145 zeroV.toArray:=Blk.dw (Blk.new wr _ _ _ rfl)
      have hsD:b+1≤(wr.alloc (.cells #[.int .i64 0,.int .i64 0,.string ⟨#[]⟩,.slice none 0 0] 145)).drew.heap.size:=by show b+1≤(wr.alloc _).heap.size;simp;omega
      have BVD:Blk (wr.alloc (.cells #[.int .i64 0,.int .i64 0,.string ⟨#[]⟩,.slice none 0 0] 145)).drew b 145 #[.int .i64 3,.int .i64 0,.string ⟨#[]⟩,.slice A2 n0 c2]:=Blk.dw (BV.alloc _)
      have BAD:Blk (wr.alloc (.cells #[.int .i64 0,.int .i64 0,.string ⟨#[]⟩,.slice none 0 0] 145)).drew ga 3 (ints l).toArray:=Blk.dw (BA.alloc _)
      have hbD:Below b W (wr.alloc (.cells #[.int .i64 0,.int .i64 0,.string ⟨#[]⟩,.slice none 0 0] 145)).drew:=hb.trans ((bDr (bAl (bRefl wr) _)).mono (by omega))
      have hone:∀ u∈zeroV,u.oneCell'=true:=by intro u hu;simp [zeroV] at hu;rcases hu with rfl | rfl | rfl | rfl <;> rfl
      have hlt1:(n0:Int)<(n0:Int)+1:=by omega
      refine wp_region_schT (f:=6) KS [(0,1),(1,2),(2,1),(3,1),(4,1),(5,0),(6,3),(7,1),(9,1),(8,4),(10,4)] ?_
      simp only [pickS,List.getElem?_cons_zero,List.getElem?_cons_succ]
      refine wpSchedT_t ?_
      refine wpSchedT_r ?_
      refine wpSchedT_t ?_
      refine wpSchedT_t ?_
      refine wpSchedT_t ?_
      refine wpSchedT_force (fun K hK=>?_)
      first | (refine step_appendB (by rfl) (.tmp 12) (.tmp 16) 143 (by rfl) (b+1) 145 (.agg #[.int .i64 0,.int .i64 0,.string ⟨#[]⟩,.slice none 0 0]) 4 56 Tryz.underlying143 value_info rfl (by omega) (.slice A2 n0 c2) n0 X (by rfl) hownD wr.heap.size 145 1 1 zeroV (by rfl) BZ rfl (by omega) hone h63 hby hsD ?_;intro v' w' hown4 hg4;obtain ⟨g',cap',rfl⟩:=ownsRow_succ hown4) | (go_simp)
      refine shut_go hK KS ?_
      clear hK K
      refine wpSchedT_on (fun K hK=>?_)
      first | (refine step_appendB (by rfl) (.tmp 12) (.tmp 16) 143 (by rfl) (b+1) 145 (.agg #[.int .i64 0,.int .i64 0,.string ⟨#[]⟩,.slice none 0 0]) 4 56 Tryz.underlying143 value_info rfl (by omega) (.slice A2 n0 c2) n0 X (by rfl) hownD wr.heap.size 145 1 1 zeroV (by rfl) BZ rfl (by omega) hone h63 hby hsD ?_;intro v' w' hown4 hg4;obtain ⟨g',cap',rfl⟩:=ownsRow_succ hown4) | (go_simp)
      refine shut_on hK ?_
      clear hK K
      refine wpSchedT_t ?_
      refine wpSchedT_t ?_
      refine wpSchedT_two ?_ ?_ <;> simp only [List.map_cons,List.map_nil,List.cons_append,List.nil_append]
      all_goals
        have b4:=hg4.below hownD hsD
        have BV4:=BVD.below b4 (by omega)
        have BA4:=hg4.blk hownD BAD (by decide)
        have hb4:=hbD.trans (b4.mono (by omega))
        have c4:=val_cell BV4
        have z4:=BV4.frozen 3
        have hXZ:∀ j,(X++zeroV)[n0*4+j]?=zeroV[j]?:=fun j=>by rw [List.getElem?_append_right (by omega),hXl];congr 1;omega
        have y0:w'.cell? ⟨g',n0*4,none⟩=some (.int .i64 0):=own_cell hown4 (hXZ 0)
        have y1:w'.cell? ⟨g',n0*4+1,none⟩=some (.int .i64 0):=own_cell hown4 (hXZ 1)
        have y2:w'.cell? ⟨g',n0*4+2,none⟩=some (.string ⟨#[]⟩):=own_cell hown4 (hXZ 2)
        have y3:w'.cell? ⟨g',n0*4+3,none⟩=some (.slice none 0 0):=own_cell hown4 (hXZ 3)
        have f0:=own_frozen hown4 (n0*4)
        have f1:=own_frozen hown4 (n0*4+1)
        have f2:=own_frozen hown4 (n0*4+2)
        have f3:=own_frozen hown4 (n0*4+3)
        have hgb:b≠g':=by have:=(OwnAt.parts hown4).2.1;omega
        clear KS hownD BZ hsD BVD BAD hbD hXZ hb BA BV hown
        go_wp2_with fail
        have hga:ga≠g':=by obtain ⟨_,_,cur,hB,_⟩:=OwnAt.parts hown4;exact BA4.neT hB (by decide)
        have hgab:ga≠b:=BA4.neT BV4 (by decide)
        have hgb2:b≤g':=by have:=(OwnAt.parts hown4).2.1;omega
        have hsz4:W.heap.size≤w'.heap.size:=Nat.le_trans hsz (Nat.le_trans (by simp) b4.size)
        have hfl:=fill4 hXl (.int .i64 1) (.int .i64 x) (.string ⟨#[]⟩) (.slice none 0 0)
        clear c4 z4 y0 y1 y2 y3 f0 f1 f2 f3 hone
        refine NoPanic.normal ?_
        go_wp2_with fail
      · refine ⟨⟨k+1,_,by omega,by go_num,((((hb4.setCell (p:=⟨g',n0*4,none⟩) hgb2 _).setCell (p:=⟨g',n0*4+1,none⟩) hgb2 _).setCell (p:=⟨g',n0*4+2,none⟩) hgb2 _).setCell (p:=⟨g',n0*4+3,none⟩) hgb2 _).setCell (p:=⟨b,3,none⟩) (Nat.le_refl _) _,by simpa using hsz4,((((BA4.far (p:=⟨g',n0*4,none⟩) hga _).far (p:=⟨g',n0*4+1,none⟩) hga _).far (p:=⟨g',n0*4+2,none⟩) hga _).far (p:=⟨g',n0*4+3,none⟩) hga _).far (p:=⟨b,3,none⟩) hgab _,
          ((((BV4.far (p:=⟨g',n0*4,none⟩) hgb _).far (p:=⟨g',n0*4+1,none⟩) hgb _).far (p:=⟨g',n0*4+2,none⟩) hgb _).far (p:=⟨g',n0*4+3,none⟩) hgb _).set_ 3 _,?_⟩,by simp [intOf];omega⟩
        have:=ownsRow_set (own_set (own_set (own_set (own_set hown4 (n0*4) (.int .i64 1)) (n0*4+1) (.int .i64 x)) (n0*4+2) (.string ⟨#[]⟩)) (n0*4+3) (.slice none 0 0)) (p:=⟨b,3,none⟩) (by show b<b+1;omega) (.slice (some ⟨g',0,none⟩) (n0+1) cap')
        rw [hfl] at this
        have hn1:k0+(k+1)=n0+1:=by have:=hn0.out;omega
        rw [hsn.out,hn1]
        exact this
      · refine ⟨⟨k+1,_,by omega,by go_num,((((hb4.setCell (p:=⟨b,3,none⟩) (Nat.le_refl _) _).setCell (p:=⟨g',n0*4,none⟩) hgb2 _).setCell (p:=⟨g',n0*4+1,none⟩) hgb2 _).setCell (p:=⟨g',n0*4+2,none⟩) hgb2 _).setCell (p:=⟨g',n0*4+3,none⟩) hgb2 _,by simpa using hsz4,((((BA4.far (p:=⟨b,3,none⟩) hgab _).far (p:=⟨g',n0*4,none⟩) hga _).far (p:=⟨g',n0*4+1,none⟩) hga _).far (p:=⟨g',n0*4+2,none⟩) hga _).far (p:=⟨g',n0*4+3,none⟩) hga _,
          ((((BV4.set_ 3 _).far (p:=⟨g',n0*4,none⟩) hgb _).far (p:=⟨g',n0*4+1,none⟩) hgb _).far (p:=⟨g',n0*4+2,none⟩) hgb _).far (p:=⟨g',n0*4+3,none⟩) hgb _,?_⟩,by simp [intOf];omega⟩
        have:=own_set (own_set (own_set (own_set (ownsRow_set hown4 (p:=⟨b,3,none⟩) (by show b<b+1;omega) (.slice (some ⟨g',0,none⟩) (n0+1) cap')) (n0*4) (.int .i64 1)) (n0*4+1) (.int .i64 x)) (n0*4+2) (.string ⟨#[]⟩)) (n0*4+3) (.slice none 0 0)
        rw [hfl] at this
        have hn1:k0+(k+1)=n0+1:=by have:=hn0.out;omega
        rw [hsn.out,hn1]
        exact this
    · have hkn:k=l.length:=by omega
      clear c3 z3
      replace hkn:=Lib.hid hkn
      go_wp2_with fail
      go_end0
      refine ⟨rfl,hb,v,BV,?_⟩
      have:=hkn.out
      subst this
      rw [List.take_length] at hown
      exact hown
theorem numF_small {k u:Nat} (h:u<128):numF k u=[u]:=by
  cases k with
  | zero=>show [u % 256]=[u];rw [Nat.mod_eq_of_lt (by omega)]
  | succ k=>show (if u<128 then [u] else _)=[u];rw [if_pos h]
theorem numF_big {k u:Nat} (h:128≤u):numF (k+1) u=(u % 128+128)::numF k (u / 128):=by
  show (if u<128 then [u] else _)=_
  rw [if_neg (by omega)]
theorem step_appendR {P:Program} {ops:Array Oper} {o:Oper} {a:Act} {w:World} {K:Act→World→Prop} {Q:Exit→Act→World→Prop} {E:Prop}
    (hgd:o.guard=none) (s x:Operand) (t:TypeId) (ho:o.op = .call { callee := .builtin .append,args:=#[s,x],argTypes:=#[t,t] })
    (base:Nat) (e:TypeId) (z:Value) (size bytes:Nat) (ht:P.underlying t=some (.slice e)) (hinfo:(P.info? e).map (fun i=>(i.zero,i.size,i.bytes))=some (some z,size,bytes)) (hzs:z.cells.size=size) (hsz:0<size)
    (v:Value) (n:Nat) (xs:List Value) (hs:a.eval s=v) (hown:w.ownsRow base e size v n xs) (A:Option Addr) (B m c:Nat) (news:List Value) (hx:a.eval x = .slice A m c) (hr:Rd w B size A m news) (hm:0<m)
    (h1:∀ u∈news,u.oneCell'=true) (h63:n+m≤maxLen) (hbytes:(n+m)*bytes≤140737488355328) (hbase:base≤w.heap.size)
    (hK:∀ v' w',w'.ownsRow base e size v' (n+m) (xs++news)→Grew w w' v v'→K (a.put o.dst v') w') :
    if Region.wanted o (yielded ops a.tmps)=true then Oper.wp P o a w K Q else E:=by
  obtain ⟨i0,hi,hz0,hz1,hz2⟩:=info_parts hinfo
  obtain ⟨b,off,rfl,_,hc⟩:=hr.2 hm
  refine step_append_lies w hgd s x t ho base e i0 z size bytes ht hi hz0 hz1 hz2 hzs hsz v n xs hs hown ⟨b,off,none⟩ m c news hx hr.1 ?_ h1 hm h63 hbytes hbase _ rfl ?_
  · intro j u hu
    rw [addr_plus]
    exact hc j u hu
  · intro g' cap w' hown' hgrow hat _
    refine hK _ w' hown' ⟨hgrow,?_⟩
    rcases hat with h | h
    · exact .inl h.symm
    · exact .inr ⟨g',rfl,by omega⟩
theorem ref_numF:∀ (k u:Nat) (W:World),u<18446744073709551616→u<128 ^ (k+1)→k≤10→Calls Tryz.prog 153 #[.int .u64 u] W (RetSl 1 (numF k u).length (byts (numF k u)) W):=by
  intro k
  induction k with
  | zero =>
    intro u W h1 h2 _
    have hlt:u<128:=by simpa using h2
    have hs:=Lib.hid (numF_small (k:=0) hlt)
    clear h2
    go_enter Tryz.func153,Tryz.ntmps153
    go_wp2_with fail
    go_ret
    refine ⟨_,rfl,bAl (bRefl W) _,?_⟩
    rw [hs.out]
    exact Sl.of_own (base:=W.heap.size) (World.ownsRow_lit W #[.int .u8 (u:Int)] 1 (Nat.le_refl _) (by unfold maxLen;omega) rfl)
  | succ k ih =>
    intro u W h1 h2 hk
    by_cases hlt:u<128
    · have hs:=Lib.hid (numF_small (k:=k+1) hlt)
      clear ih h2
      go_enter Tryz.func153,Tryz.ntmps153
      go_wp2_with fail
      go_ret
      refine ⟨_,rfl,bAl (bRefl W) _,?_⟩
      rw [hs.out]
      exact Sl.of_own (base:=W.heap.size) (World.ownsRow_lit W #[.int .u8 (u:Int)] 1 (Nat.le_refl _) (by unfold maxLen;omega) rfl)
    · have hge:128≤u:=by omega
      have hs:=Lib.hid (numF_big (k:=k) hge)
      have hq:=fun w=>ih (u / 128) w (by omega) (by rw [Nat.pow_succ] at h2;omega) (by omega)
      rw [show ((u / 128:Nat):Int)=(u:Int) / 128 by omega] at hq
      have hl:=(numF_len k (u / 128)).2
      have hm:Hid (((u % 128+128:Nat):Int)=(u:Int) % 128+128):=by show _=_;omega
      obtain ⟨L,hL⟩:∃ L,Hid (L=numF k (u / 128)):=⟨_,Lib.hid rfl⟩
      rw [←hL.out] at hq hl
      clear ih h2 hlt
      go_enter Tryz.func153,Tryz.ntmps153
      go_wp2_with fail
      (with_reducible refine (hq _).mono ?_)
      rintro e w2 ⟨v2,rfl,b2,A2,c2,rfl,hR,hc2,_,hnil⟩
      have hown:=ownsRow_keep (World.ownsRow_lit (base:=W.heap.size) (e:=5) (size:=1) W #[.int .u8 ((u:Int) % 128+128)] 1 (Nat.le_refl _) (by unfold maxLen;omega) rfl) b2
      have hb2:=bCall (bAl (bRefl W) _) b2
      have hone:∀ q∈byts L,q.oneCell'=true:=byts_oneCell
      have h63:1+L.length≤maxLen:=by unfold maxLen;omega
      have hby:(1+L.length)*1≤140737488355328:=by omega
      have hbs:=hb2.size
      clear b2 hq
      go_wp2_with (at_builtin;refine wpList_appendG (.tmp 12) (.tmp 15) 106 W.heap.size 5 (.int .u8 0) 1 1 _ 1 _ A2 L.length c2 w2.heap.size (byts L) rfl rfl Tryz.underlying106 byte_info rfl (by omega) rfl hown rfl hR hnil hone h63 hby hbs ?_;intro v' w' hown4 hg4)
      go_ret
      refine ⟨_,rfl,hb2.trans (hg4.below hown hbs),?_⟩
      have hX:=Sl.of_own hown4
      rw [hs.out,←hL.out]
      have e:byts ((u % 128+128)::L)=[Value.int .u8 ((u:Int) % 128+128)]++byts L:=by
        show Value.int .u8 ((u % 128+128:Nat):Int)::byts L=_
        rw [hm.out];rfl
      rw [e,List.length_cons,Nat.add_comm]
      exact hX
theorem ref_numeral (u:Nat) (W:World) (h:u<18446744073709551616):Calls Tryz.prog 153 #[.int .u64 u] W (RetSl 1 (numN u).length (byts (numN u)) W) :=
  ref_numF 10 u W h (Nat.lt_of_lt_of_le h (by decide)) (Nat.le_refl _)
theorem ref_unsigned (n:Int) (w:World) (h0:-9223372036854775808≤n) (h1:n≤9223372036854775807) :
    Calls Tryz.prog 154 #[.int .i64 n] w (Same (.int .u64 (unsN n:Nat)) w):=by
  by_cases hn:0≤n
  · have e:Hid (((unsN n:Nat):Int)=2*n):=by show _=_;unfold unsN;rw [if_pos hn];omega
    go_enter Tryz.func154,Tryz.ntmps154
    go_wp2
    go_ret
    exact ⟨ret_int e.out.symm,rfl⟩
  · have e:Hid (((unsN n:Nat):Int)=2 * (-(n+1))+1):=by show _=_;unfold unsN;rw [if_neg hn];omega
    have hw1:IntKind.i64.wrap (n+1)=n+1:=by rw [IntKind.wrap_i64];omega
    have hw2:IntKind.i64.wrap (-(n+1)) = -(n+1):=by rw [IntKind.wrap_i64];omega
    have hw3:IntKind.u64.wrap (-(n+1)) = -(n+1):=by rw [IntKind.wrap_u64];omega
    have hw4:IntKind.u64.wrap (2 * -(n+1))=2 * -(n+1):=by rw [IntKind.wrap_u64];omega
    have hw5:IntKind.u64.wrap (2 * -(n+1)+1)=2 * -(n+1)+1:=by rw [IntKind.wrap_u64];omega
    go_enter Tryz.func154,Tryz.ntmps154
    go_wp2
    go_ret
    exact ⟨ret_int e.out.symm,rfl⟩
theorem ref_fmd_leaf (x:It) (w:World):Calls Tryz.prog 151 #[x.agg] w (Ret (.bool true) w):=by
  cases x with
  | int n =>
    show Calls _ _ #[.agg #[.int .i64 1,.int .i64 n,.string ⟨#[]⟩,.slice none 0 0]] w _
    go_enter Tryz.func151,Tryz.ntmps151
    go_wp2_with fail
    all_goals
      go_ret
      exact ⟨rfl,bAl (bRefl _) _⟩
  | text s =>
    show Calls _ _ #[.agg #[.int .i64 2,.int .i64 0,.string s,.slice none 0 0]] w _
    go_enter Tryz.func151,Tryz.ntmps151
    go_wp2_with fail
    all_goals
      go_ret
      exact ⟨rfl,bAl (bRefl _) _⟩
theorem ref_depth_leaf (x:It) (w:World):Calls Tryz.prog 152 #[x.agg] w (Ret (.int .i64 0) w):=by
  cases x with
  | int n =>
    show Calls _ _ #[.agg #[.int .i64 1,.int .i64 n,.string ⟨#[]⟩,.slice none 0 0]] w _
    go_enter Tryz.func152,Tryz.ntmps152
    go_wp2_with fail
    all_goals
      go_ret
      exact ⟨rfl,bAl (bRefl _) _⟩
  | text s =>
    show Calls _ _ #[.agg #[.int .i64 2,.int .i64 0,.string s,.slice none 0 0]] w _
    go_enter Tryz.func152,Tryz.ntmps152
    go_wp2_with fail
    all_goals
      go_ret
      exact ⟨rfl,bAl (bRefl _) _⟩
theorem It.four (x:It):∃ y0 y1 y2 y3,x.cells=[y0,y1,y2,y3]∧x.agg = .agg #[y0,y1,y2,y3]:=by cases x <;> exact ⟨_,_,_,_,rfl,rfl⟩
theorem It.fourc {x:It} {y0 y1 y2 y3:Value} {w:World} {b o:Nat} (hx:x.cells=[y0,y1,y2,y3]) (h:∀ j u,x.cells[j]?=some u→w.cell? ⟨b,o+j,none⟩=some u) :
    w.cell? ⟨b,o,none⟩=some y0∧w.cell? ⟨b,o+1,none⟩=some y1∧w.cell? ⟨b,o+2,none⟩=some y2∧w.cell? ⟨b,o+3,none⟩=some y3:=by
  rw [hx] at h
  exact ⟨h 0 _ rfl,h 1 _ rfl,h 2 _ rfl,h 3 _ rfl⟩
theorem ref_fmd_list (A:Option Addr) (n c:Nat) (l:List It) (W:World) (hA:Rd W W.heap.size 4 A n (l.flatMap It.cells)) (hn:n≤1000000) :
    Calls Tryz.prog 151 #[listV A n c] W (Ret (.bool true) W):=by
  have hl:Hid (l.length=n):=by have:=hA.1;rw [flat_len It.cells_length] at this;show _=_;omega
  unfold listV
  have BX:=Blk.new W 145 #[.int .i64 3,.int .i64 0,.string ⟨#[]⟩,.slice A n c] _ rfl
  have hb:=bAl (bRefl W) (.cells #[.int .i64 3,.int .i64 0,.string ⟨#[]⟩,.slice A n c] 145)
  go_enter Tryz.func151,Tryz.ntmps151
  go_upto_region 1 with fail
  generalize W.alloc (.cells #[.int .i64 3,.int .i64 0,.string ⟨#[]⟩,.slice A n c] 145)=w1 at *
  obtain ⟨m0,m1,m2,m3⟩:=box_cells BX
  go_wp2_with fail
  go_loopw [3] (fun i wr=>∃ k:Nat,k≤n∧i = .int .i64 k∧Below W.heap.size W wr∧Blk wr W.heap.size 145 #[.int .i64 3,.int .i64 0,.string ⟨#[]⟩,.slice A n c]) (fun i _=>n - (intOf i).toNat)
  case atStart=>exact ⟨0,Nat.zero_le _,rfl,hb,BX⟩
  case round =>
    clear hb BX m0 m1 m2 m3
    obtain ⟨k,hk,rfl,hb,BX⟩:=hrel
    obtain ⟨m0,m1,m2,m3⟩:=box_cells BX
    by_cases hlt:k<n
    · obtain ⟨x,hx⟩:∃ x,Hid (l[k]?=some x):=⟨_,Lib.hid (List.getElem?_eq_getElem (by rw [hl.out];exact hlt))⟩
      obtain ⟨b,off,rfl,hbb,hc⟩:=It_at (hA.below hb) hlt hx.out
      obtain ⟨y0,y1,y2,y3,hx1,hx2⟩:=x.four
      obtain ⟨c0,c1,c2,c3⟩:=It.fourc hx1 hc
      have q:=fun w=>ref_fmd_leaf x w
      rw [hx2] at q
      clear hc hx1 hx2 hx
      go_wp2_with fail
      with_reducible refine (q _).mono ?_
      rintro e w2 ⟨rfl,b2⟩
      have hb2:=bCall hb b2
      have BX2:=BX.below b2 BX.lt
      clear hb b2 q BX
      go_wp2_with fail
      go_roundw
      case rel=>exact ⟨k+1,by omega,by go_num,hb2,BX2⟩
      case measure=>simp [intOf];omega
    · go_wp2_with fail
      go_ret
      exact ⟨rfl,hb⟩
theorem ref_depth_list (A:Option Addr) (n c:Nat) (l:List It) (W:World) (hA:Rd W W.heap.size 4 A n (l.flatMap It.cells)) (hn:n≤1000000) :
    Calls Tryz.prog 152 #[listV A n c] W (Ret (.int .i64 1) W):=by
  have hl:Hid (l.length=n):=by have:=hA.1;rw [flat_len It.cells_length] at this;show _=_;omega
  unfold listV
  have BX:=Blk.new W 145 #[.int .i64 3,.int .i64 0,.string ⟨#[]⟩,.slice A n c] _ rfl
  have hb:=bAl (bRefl W) (.cells #[.int .i64 3,.int .i64 0,.string ⟨#[]⟩,.slice A n c] 145)
  go_enter Tryz.func152,Tryz.ntmps152
  go_upto_region 1 with fail
  generalize W.alloc (.cells #[.int .i64 3,.int .i64 0,.string ⟨#[]⟩,.slice A n c] 145)=w1 at *
  obtain ⟨m0,m1,m2,m3⟩:=box_cells BX
  go_wp2_with fail
  go_loopw [3,4] (fun d i wr=>∃ k:Nat,k≤n∧i = .int .i64 k∧d = .int .i64 0∧Below W.heap.size W wr∧Blk wr W.heap.size 145 #[.int .i64 3,.int .i64 0,.string ⟨#[]⟩,.slice A n c]) (fun _ i _=>n - (intOf i).toNat)
  case atStart=>exact ⟨0,Nat.zero_le _,rfl,rfl,hb,BX⟩
  case round =>
    clear hb BX m0 m1 m2 m3
    obtain ⟨k,hk,rfl,rfl,hb,BX⟩:=hrel
    obtain ⟨m0,m1,m2,m3⟩:=box_cells BX
    by_cases hlt:k<n
    · obtain ⟨x,hx⟩:∃ x,Hid (l[k]?=some x):=⟨_,Lib.hid (List.getElem?_eq_getElem (by rw [hl.out];exact hlt))⟩
      obtain ⟨b,off,rfl,hbb,hc⟩:=It_at (hA.below hb) hlt hx.out
      obtain ⟨y0,y1,y2,y3,hx1,hx2⟩:=x.four
      obtain ⟨c0,c1,c2,c3⟩:=It.fourc hx1 hc
      have q:=fun w=>ref_depth_leaf x w
      rw [hx2] at q
      clear hc hx1 hx2 hx
      go_wp2_with fail
      with_reducible refine (q _).mono ?_
      rintro e w2 ⟨rfl,b2⟩
      have hb2:=bCall hb b2
      have BX2:=BX.below b2 BX.lt
      clear hb b2 q BX
      go_wp2_with fail
      go_roundw
      case rel=>exact ⟨k+1,by omega,by go_num,rfl,hb2,BX2⟩
      case measure=>simp [intOf];omega
    · go_wp2_with fail
      go_ret
      exact ⟨rfl,hb⟩
theorem ref_ccheck (A:Option Addr) (n c:Nat) (l:List It) (W:World) (hA:Rd W W.heap.size 4 A n (l.flatMap It.cells)) (hn:n≤1000000) :
    Calls Tryz.prog 127 #[listV A n c] W (Ret (.int .i64 0) W):=by
  have hA2:=(hA.alloc (Nat.le_refl _) (.cells #[.int .i64 3,.int .i64 0,.string ⟨#[]⟩,.slice A n c] 145)).more (B':=(W.alloc (.cells #[.int .i64 3,.int .i64 0,.string ⟨#[]⟩,.slice A n c] 145)).heap.size) (by simp)
  have BX:=Blk.new W 145 #[.int .i64 3,.int .i64 0,.string ⟨#[]⟩,.slice A n c] _ rfl
  have hb:=bAl (bRefl W) (.cells #[.int .i64 3,.int .i64 0,.string ⟨#[]⟩,.slice A n c] 145)
  unfold listV
  go_enter Tryz.func127,Tryz.ntmps127
  go_upto_region 1 with fail
  generalize W.alloc (.cells #[.int .i64 3,.int .i64 0,.string ⟨#[]⟩,.slice A n c] 145)=w1 at *
  have q:=ref_fmd_list A n c l w1 hA2 hn
  obtain ⟨m0,m1,m2,m3⟩:=box_cells BX
  unfold listV at q
  go_wp2_with fail
  with_reducible refine q.mono ?_
  rintro e w2 ⟨rfl,b2⟩
  have hb2:=bCall hb b2
  have BX2:=BX.below b2 BX.lt
  have q2:=ref_depth_list A n c l w2 ((hA2.below b2).more b2.size) hn
  unfold listV at q2
  clear q hb b2 BX m0 m1 m2 m3
  obtain ⟨m0,m1,m2,m3⟩:=box_cells BX2
  go_wp2_with fail
  with_reducible refine q2.mono ?_
  rintro e w3 ⟨rfl,b3⟩
  have hb3:=bCall hb2 b3
  go_wp2_with fail
  go_ret
  exact ⟨rfl,hb3⟩
theorem ref_enc_int (m:Int) (W:World) (hm:(It.int m).ok) :
    Calls Tryz.prog 128 #[.agg #[.int .i64 1,.int .i64 m,.string ⟨#[]⟩,.slice none 0 0]] W (RetSl 1 (It.int m).enc.length (byts (It.int m).enc) W):=by
  obtain ⟨m0,m1⟩:=hm
  have hun:=unsN_lt m0 m1
  have hl:=(numF_len 10 (unsN m)).2
  have q1:=fun w=>ref_unsigned m w m0 m1
  have q2:=fun w=>ref_numeral (unsN m) w hun
  obtain ⟨L,hL⟩:∃ L,Hid (L=numN (unsN m)):=⟨_,Lib.hid rfl⟩
  rw [←hL.out] at q2
  have hl2:L.length≤11:=by rw [hL.out];exact hl
  generalize unsN m=u at q1 q2 hun
  have BX:=Blk.new W 145 #[.int .i64 1,.int .i64 m,.string ⟨#[]⟩,.slice none 0 0] _ rfl
  have hb:=bAl (bRefl W) (.cells #[.int .i64 1,.int .i64 m,.string ⟨#[]⟩,.slice none 0 0] 145)
  have hown0:=World.ownsRow_lit (base:=W.heap.size) (e:=5) (size:=1) (W.alloc (.cells #[.int .i64 1,.int .i64 m,.string ⟨#[]⟩,.slice none 0 0] 145)) #[.int .u8 1] 1 hb.size (by unfold maxLen;omega) rfl
  clear hl
  go_enter Tryz.func128,Tryz.ntmps128
  go_upto_region 1 with fail
  generalize W.alloc (.cells #[.int .i64 1,.int .i64 m,.string ⟨#[]⟩,.slice none 0 0] 145)=w1 at *
  obtain ⟨k0,k1,k2,k3⟩:=box_cells BX
  obtain ⟨j0,j1,j2,j3⟩:=box_cells (BX.alloc (.cells #[.int .u8 1] 5))
  go_wp2_with fail
  with_reducible refine (q1 _).mono ?_
  rintro e w2 ⟨rfl,rfl⟩
  go_wp2_with fail
  with_reducible refine (q2 _).mono ?_
  rintro e w3 ⟨v2,rfl,b3,A2,c2,rfl,hR,hc2,_,hnil⟩
  have hown:=ownsRow_keep hown0 b3
  have hb3:=bCall (bAl hb _) b3
  have hone:∀ q∈byts L,q.oneCell'=true:=byts_oneCell
  have h63:1+L.length≤maxLen:=by unfold maxLen;omega
  have hby:(1+L.length)*1≤140737488355328:=by omega
  have hbs:=hb3.size
  clear b3 q1 q2 hown0 k0 k1 k2 k3 BX hb
  go_wp2_with (at_builtin;refine wpList_appendG (.tmp 9) (.tmp 13) 106 W.heap.size 5 (.int .u8 0) 1 1 _ 1 _ A2 L.length c2 w3.heap.size (byts L) rfl rfl Tryz.underlying106 byte_info rfl (by omega) rfl hown rfl hR hnil hone h63 hby hbs ?_;intro v' w' hown4 hg4)
  go_ret
  refine ⟨_,rfl,hb3.trans (hg4.below hown hbs),?_⟩
  have hX:=Sl.of_own hown4
  have e:(It.int m).enc=1::L:=by rw [hL.out];rfl
  rw [e,List.length_cons,Nat.add_comm]
  exact hX
theorem ref_enc_text (s:ByteArray) (W:World) (hm:(It.text s).ok) :
    Calls Tryz.prog 128 #[.agg #[.int .i64 2,.int .i64 0,.string s,.slice none 0 0]] W (RetSl 1 (It.text s).enc.length (byts (It.text s).enc) W):=by
  have hm':s.size≤1000000:=hm
  have hl:=numF_len 10 s.size
  have q2:=fun w=>ref_numeral s.size w (by omega)
  obtain ⟨L,hL⟩:∃ L,Hid (L=numN s.size):=⟨_,Lib.hid rfl⟩
  rw [←hL.out] at q2
  have hl2:L.length≤11:=by rw [hL.out];exact hl.2
  have hl0:0<L.length:=by rw [hL.out];exact hl.1
  have hW:Hid (IntKind.u64.wrap (s.size:Int)=(s.size:Int)):=by show _=_;rw [IntKind.wrap_u64];omega
  have BX:=Blk.new W 145 #[.int .i64 2,.int .i64 0,.string s,.slice none 0 0] _ rfl
  have hb:=bAl (bRefl W) (.cells #[.int .i64 2,.int .i64 0,.string s,.slice none 0 0] 145)
  clear hl hm
  go_enter Tryz.func128,Tryz.ntmps128
  go_upto_region 1 with fail
  generalize W.alloc (.cells #[.int .i64 2,.int .i64 0,.string s,.slice none 0 0] 145)=w1 at *
  obtain ⟨k0,k1,k2,k3⟩:=box_cells BX
  have hbs:=hb.size
  have hone:∀ q∈byts L,q.oneCell'=true:=byts_oneCell
  have h63:1+L.length≤maxLen:=by unfold maxLen;omega
  have hby:(1+L.length)*1≤140737488355328:=by omega
  go_upto_region 5 with fail
  have hml:1≤maxLen:=by unfold maxLen;omega
  have hO1:(w1.drew.alloc (.cells #[.int .u8 2] 5)).ownsRow W.heap.size 5 1 (.slice (some ⟨w1.heap.size,0,none⟩) 1 1) 1 [.int .u8 2]:=World.ownsRow_lit w1.drew #[.int .u8 2] 1 hbs hml rfl
  have hO2:∀ w5:World,W.heap.size≤w5.heap.size→(w5.alloc (.cells #[.int .u8 2] 5)).ownsRow W.heap.size 5 1 (.slice (some ⟨w5.heap.size,0,none⟩) 1 1) 1 [.int .u8 2]:=fun w5 h=>World.ownsRow_lit w5 #[.int .u8 2] 1 h hml rfl
  go_region_held3 (fun w'=>w'.cell? ⟨W.heap.size,2,none⟩=some (.string s))
    (first | exact BX7.cell 2 | exact BX6.cell 2 | exact BX5.cell 2 | exact (BX5.alloc _).cell 2 | exact BX.cell 2 | exact (BX.below (by repeat (first | exact bRefl _ | refine bAl ?_ _ | refine bDr ?_)) BX.lt).cell 2)
    (first
    | (refine step_appendR rfl (.tmp 17) (.tmp 22) 106 rfl W.heap.size 5 (.int .u8 0) 1 1 Tryz.underlying106 byte_info (by rfl) (by omega) _ 1 [.int .u8 2] (by rfl) (ownsRow_keep hO1 b5) A5 w5.heap.size L.length c5 (byts L) (by rfl) hR5 hl0 hone h63 hby (bCall (bAl (bDr hb) _) b5).size ?_
       intro v6 w6 hown6 hg6
       have B6:Below W.heap.size W w6:=(bCall (bAl (bDr hb) _) b5).trans (hg6.below (ownsRow_keep hO1 b5) (bCall (bAl (bDr hb) _) b5).size)
       have BX6:Blk w6 W.heap.size 145 #[.int .i64 2,.int .i64 0,.string s,.slice none 0 0]:=hg6.blk (ownsRow_keep hO1 b5) BX5 (by decide))
    | (refine step_appendR rfl (.tmp 17) (.tmp 22) 106 rfl W.heap.size 5 (.int .u8 0) 1 1 Tryz.underlying106 byte_info (by rfl) (by omega) _ 1 [.int .u8 2] (by rfl) (hO2 w5 (bCall (bDr hb) b5).size) A5 w5.heap.size L.length c5 (byts L) (by rfl) (hR5.alloc (Nat.le_refl _) _) hl0 hone h63 hby (bAl (bCall (bDr hb) b5) _).size ?_
       intro v6 w6 hown6 hg6
       have B6:Below W.heap.size W w6:=(bAl (bCall (bDr hb) b5) _).trans (hg6.below (hO2 w5 (bCall (bDr hb) b5).size) (bAl (bCall (bDr hb) b5) _).size)
       have BX6:Blk w6 W.heap.size 145 #[.int .i64 2,.int .i64 0,.string s,.slice none 0 0]:=hg6.blk (hO2 w5 (bCall (bDr hb) b5).size) (BX5.alloc _) (by decide))
    | (refine step_append_str rfl (.tmp 23) (.tmp 25) 106 9 rfl W.heap.size 5 Tryz.underlying106 Tryz.underlying9 byte_info v6 (1 + L.length) _ (by rfl) hown6 s (by rfl) (by unfold maxLen; omega) (by omega) B6.size ?_
       intro v7 w7 hown7 hg7
       have BX7:=hg7.blk hown6 BX6 (by decide)
       have B7:Below W.heap.size W w7:=B6.trans (hg7.below hown6 B6.size))
    | (go_simp;go_at_call 153;rw [hW.out];(with_reducible refine (q2 _).mono ?_);rintro e w5 ⟨v5,rfl,b5,A5,c5,rfl,hR5,_,_,_⟩;have BX5:Blk w5 W.heap.size 145 #[.int .i64 2,.int .i64 0,.string s,.slice none 0 0]:=(BX.below (by repeat (first | exact bRefl _ | refine bAl ?_ _ | refine bDr ?_)) BX.lt).below b5 (by have:=BX.lt;simp <;> omega)))
  all_goals
    go_wp2_with fail
    go_ret
    refine ⟨_,rfl,B7,?_⟩
    have hX:=Sl.of_own hown7
    have e:(It.text s).enc=2::(L++sb s):=by rw [hL.out];rfl
    rw [e,List.length_cons,List.length_append,sb_len]
    rw [strCells_byts] at hX
    have e2:(L.length+s.size+1)=1+L.length+s.size:=by omega
    rw [e2]
    simpa [byts] using hX
theorem ref_enc_it (x:It) (W:World) (hm:x.ok):Calls Tryz.prog 128 #[x.agg] W (RetSl 1 x.enc.length (byts x.enc) W):=by
  cases x with
  | int m=>exact ref_enc_int m W hm
  | text s=>exact ref_enc_text s W hm
theorem own_base {w:World} {base b0:Nat} {e:TypeId} {sz n:Nat} {v:Value} {xs:List Value} (h:w.ownsRow base e sz v n xs) (hb:b0≤base):w.ownsRow b0 e sz v n xs:=by
  obtain ⟨h1,h2⟩:=h
  refine ⟨h1,?_⟩
  rcases h2 with h2 | ⟨g,cap,cur,r0,r1,r2⟩
  · exact .inl h2
  · exact .inr ⟨g,cap,cur,r0,Nat.le_trans hb r1,r2⟩
theorem ref_enc_list (A:Option Addr) (n c:Nat) (l:List It) (W:World) (hA:Rd W W.heap.size 4 A n (l.flatMap It.cells)) (hok:∀ x∈l,x.ok) (hn:n≤1000) :
    Calls Tryz.prog 128 #[listV A n c] W (fun r w'=>∃ v,r = .returned v∧Below W.heap.size W w'∧w'.ownsRow W.heap.size 5 1 v (encN l).length (byts (encN l))):=by
  obtain rfl:l.length=n:=by have:=hA.1;rw [flat_len It.cells_length] at this;omega
  unfold listV
  have hl:=numF_len 10 l.length
  have q2:=fun w=>ref_numeral l.length w (by omega)
  obtain ⟨L,hL⟩:∃ L,Hid (L=numN l.length):=⟨_,Lib.hid rfl⟩
  rw [←hL.out] at q2
  have hl2:L.length≤11:=by rw [hL.out];exact hl.2
  have hWU:Hid (IntKind.u64.wrap (l.length:Int)=(l.length:Int)):=by show _=_;rw [IntKind.wrap_u64];omega
  have BX:=Blk.new W 145 #[.int .i64 3,.int .i64 0,.string ⟨#[]⟩,.slice A l.length c] _ rfl
  have hb:=bAl (bRefl W) (.cells #[.int .i64 3,.int .i64 0,.string ⟨#[]⟩,.slice A l.length c] 145)
  clear hl
  go_enter Tryz.func128,Tryz.ntmps128
  go_upto_region 1 with fail
  generalize W.alloc (.cells #[.int .i64 3,.int .i64 0,.string ⟨#[]⟩,.slice A l.length c] 145)=w1 at *
  obtain ⟨k0,k1,k2,k3⟩:=box_cells BX
  obtain ⟨j0,j1,j2,j3⟩:=box_cells (BX.alloc (.cells #[.int .u8 3] 5))
  have hown0:=World.ownsRow_lit (base:=W.heap.size) (e:=5) (size:=1) w1 #[.int .u8 3] 1 hb.size (by unfold maxLen;omega) rfl
  go_wp2_with fail
  with_reducible refine (q2 _).mono ?_
  rintro e w3 ⟨v2,rfl,b3,A2,c2,rfl,hR,hc2,_,hnil⟩
  have hown:=ownsRow_keep hown0 b3
  have hb3:=bCall (bAl hb _) b3
  have BX3:=(BX.alloc (.cells #[.int .u8 3] 5)).below b3 (BX.alloc (.cells #[.int .u8 3] 5)).lt
  have hone:∀ q∈byts L,q.oneCell'=true:=byts_oneCell
  have h63:1+L.length≤maxLen:=by unfold maxLen;omega
  have hby:(1+L.length)*1≤140737488355328:=by omega
  have hbs:=hb3.size
  clear b3 q2 hown0 k0 k1 k2 k3 j0 j1 j2 j3 BX hb
  go_wp2_with (at_builtin;refine wpList_appendG (.tmp 27) (.tmp 32) 106 W.heap.size 5 (.int .u8 0) 1 1 _ 1 _ A2 L.length c2 w3.heap.size (byts L) rfl rfl Tryz.underlying106 byte_info rfl (by omega) rfl hown rfl hR hnil hone h63 hby hbs ?_;intro v4 w4 hown4 hg4)
  have hb4:=hb3.trans (hg4.below hown hbs)
  have BX4:=hg4.blk hown BX3 (by decide)
  have hown5:w4.ownsRow W.heap.size 5 1 v4 (1+L.length) (byts (3::L)):=by simpa [byts] using hown4
  clear hown hb3 BX3 hR hnil hown4 hg4 hbs hone
  go_loopw [3,4] (fun v i wr=>∃ k:Nat,k≤l.length∧i = .int .i64 k∧wr.ownsRow W.heap.size 5 1 v (1+L.length+(encL (l.take k)).length) (byts (3::L++encL (l.take k)))∧Below W.heap.size W wr∧Blk wr W.heap.size 145 #[.int .i64 3,.int .i64 0,.string ⟨#[]⟩,.slice A l.length c]) (fun _ i _=>l.length - (intOf i).toNat)
  case atStart=>exact ⟨0,Nat.zero_le _,rfl,by simpa [encL] using hown5,hb4,BX4⟩
  case round =>
    clear hb4 BX4 hown5
    obtain ⟨k,hk,rfl,hown,hb,BX⟩:=hrel
    obtain ⟨m0,m1,m2,m3⟩:=box_cells BX
    by_cases hlt:k<l.length
    · obtain ⟨x,hx⟩:∃ x,Hid (l[k]?=some x):=⟨_,Lib.hid (List.getElem?_eq_getElem hlt)⟩
      obtain ⟨b,off,rfl,hbb,hc⟩:=It_at (hA.below hb) hlt hx.out
      obtain ⟨y0,y1,y2,y3,hx1,hx2⟩:=x.four
      obtain ⟨c0,c1,c2,c3⟩:=It.fourc hx1 hc
      have hxo:=hok x (List.mem_of_getElem? hx.out)
      have q:=fun w=>ref_enc_it x w hxo
      rw [hx2] at q
      have hsn:Hid (encL (l.take (k+1))=encL (l.take k)++x.enc):=by
        obtain ⟨hk,rfl⟩:=List.getElem?_eq_some_iff.1 hx.out
        show _=_
        rw [List.take_succ_eq_append_getElem hk,encL_snoc]
      have hxe:=enc_len hxo
      have hle:Hid (1+L.length+(encL (l.take k)).length≤70368744100000):=by
        have h2:=encL_len (l:=l.take k) (fun y hy=>hok y (List.mem_of_mem_take hy))
        rw [List.length_take] at h2
        have h3:min k l.length*1000012≤1000*1000012:=Nat.mul_le_mul_right _ (by omega)
        show _≤_
        omega
      clear hc hx1 hx2 hx hxo
      go_wp2_with fail
      with_reducible refine (q _).mono ?_
      rintro e w2 ⟨v2,rfl,b2,A2,c4,rfl,hR,_,_,hnil⟩
      have hb2:=bCall hb b2
      have BX2:=BX.below b2 BX.lt
      have hown2:=ownsRow_keep hown b2
      have hone:∀ q∈byts x.enc,q.oneCell'=true:=byts_oneCell
      have h63:1+L.length+(encL (l.take k)).length+x.enc.length≤maxLen:=by have:=hle.out;unfold maxLen;omega
      have hby:(1+L.length+(encL (l.take k)).length+x.enc.length)*1≤140737488355328:=by have:=hle.out;omega
      have hbs:=hb2.size
      clear hb b2 q BX hown m0 m1 m2 m3 c0 c1 c2 c3
      go_wp2_with (at_builtin;refine wpList_appendG (.tmp 41) (.tmp 47) 106 W.heap.size 5 (.int .u8 0) 1 1 _ (1+L.length+(encL (l.take k)).length) _ A2 x.enc.length c4 w2.heap.size (byts x.enc) rfl rfl Tryz.underlying106 byte_info rfl (by omega) rfl hown2 rfl hR hnil hone h63 hby hbs ?_;intro v4 w4 hown4 hg4)
      go_roundw
      case rel=>exact ⟨k+1,by omega,by go_num,by rw [hsn.out,List.length_append];simpa [byts,Nat.add_assoc] using hown4,hb2.trans (hg4.below hown2 hbs),hg4.blk hown2 BX2 (by decide)⟩
      case measure=>simp [intOf];omega
    · have hkn:Hid (encL (l.take k)=encL l):=by show _=_;rw [List.take_of_length_le (by omega)]
      rw [hkn.out] at hown
      go_wp2_with fail
      go_ret
      refine ⟨_,rfl,hb,?_⟩
      have e:encN l=3::L++encL l:=by rw [hL.out];rfl
      have e2:(3::L++encL l).length=1+L.length+(encL l).length:=by simp;omega
      rw [e,e2]
      exact hown
theorem ref_encodeO (A:Option Addr) (n c:Nat) (l:List It) (W:World) (hA:Rd W W.heap.size 4 A n (l.flatMap It.cells)) (hok:∀ x∈l,x.ok) (hn:n≤1000) :
    Calls Tryz.prog 90 #[listV A n c] W (fun r w'=>∃ v,r = .returned (.tuple #[v,.int .i64 0])∧Below W.heap.size W w'∧w'.ownsRow W.heap.size 5 1 v (encN l).length (byts (encN l))):=by
  have hA2:=(hA.alloc (Nat.le_refl _) (.cells #[.int .i64 3,.int .i64 0,.string ⟨#[]⟩,.slice A n c] 145)).more (B':=(W.alloc (.cells #[.int .i64 3,.int .i64 0,.string ⟨#[]⟩,.slice A n c] 145)).heap.size) (by simp)
  have BX:=Blk.new W 145 #[.int .i64 3,.int .i64 0,.string ⟨#[]⟩,.slice A n c] _ rfl
  have hb:=bAl (bRefl W) (.cells #[.int .i64 3,.int .i64 0,.string ⟨#[]⟩,.slice A n c] 145)
  unfold listV
  go_enter Tryz.func90,Tryz.ntmps90
  go_upto_region 1 with fail
  generalize W.alloc (.cells #[.int .i64 3,.int .i64 0,.string ⟨#[]⟩,.slice A n c] 145)=w1 at *
  have q:=ref_ccheck A n c l w1 hA2 (by omega)
  obtain ⟨m0,m1,m2,m3⟩:=box_cells BX
  unfold listV at q
  go_wp2_with fail
  with_reducible refine q.mono ?_
  rintro e w2 ⟨rfl,b2⟩
  have hb2:=bCall hb b2
  have BX2:=BX.below b2 BX.lt
  have q2:=ref_enc_list A n c l w2 ((hA2.below b2).more b2.size) hok hn
  unfold listV at q2
  clear q hb b2 BX m0 m1 m2 m3
  obtain ⟨m0,m1,m2,m3⟩:=box_cells BX2
  go_wp2_with fail
  with_reducible refine q2.mono ?_
  rintro e w3 ⟨v3,rfl,b3,hS⟩
  have hb3:=bCall hb2 b3
  go_wp2_with fail
  go_ret2
  exact ⟨_,rfl,hb3,own_base hS hb2.size⟩
theorem ref_encode (A:Option Addr) (n c:Nat) (l:List It) (W:World) (hA:Rd W W.heap.size 4 A n (l.flatMap It.cells)) (hok:∀ x∈l,x.ok) (hn:n≤1000) :
    Calls Tryz.prog 90 #[listV A n c] W (fun r w'=>∃ v,r = .returned (.tuple #[v,.int .i64 0])∧Below W.heap.size W w'∧Sl w' w'.heap.size 1 v (encN l).length (byts (encN l))) :=
  (ref_encodeO A n c l W hA hok hn).mono (fun _ _ ⟨v,h1,h2,h3⟩=>⟨v,h1,h2,Sl.of_own h3⟩)
end Go.Proofs.YtgkpomdegomgiaaGreatDoor

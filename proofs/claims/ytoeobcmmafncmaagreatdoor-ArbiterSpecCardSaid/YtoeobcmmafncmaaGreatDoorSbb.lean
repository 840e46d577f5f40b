/- Stores into the row that a slice owns. -/
import Derived.Test.YtoeobcmmafncmaaGreatDoorSad
import Derived.Test.YtoeobcmmafncmaaGreatDoorSag
import Derived.Test.YtoeobcmmafncmaaGreatDoorSba
import Derived.Test.YtoeobcmmafncmaaGreatDoorSae
set_option maxRecDepth 1000000
set_option maxHeartbeats 16000000
namespace Go.Proofs.YtoeobcmmafncmaaGreatDoor
open Go Go.RowKit
def OwnAt (w:World) (base:Nat) (e:TypeId) (size g n cap:Nat) (xs:List Value):Prop:=w.ownsRow base e size (.slice (some ⟨g,0,none⟩) n cap) n xs
theorem OwnAt.parts {w:World} {base:Nat} {e:TypeId} {size g n cap:Nat} {xs:List Value} (h:w.ownsRow base e size (.slice (some ⟨g,0,none⟩) n cap) n xs) :
  xs.length=n*size∧base≤g∧∃ cur,Blk w g e cur∧n≤cap∧cap≤maxLen∧cur.size=cap*size∧cur.toList.take (n*size)=xs:=by
 obtain ⟨h1,h2⟩:=h
 refine ⟨h1,?_⟩
 rcases h2 with ⟨h2,_⟩ | ⟨g',cap',cur,hv,hb,hh,r1,r2,r3,r4⟩
 ·cases h2
 ·injection hv with e1 _ e3
  injection e1 with e1
  injection e1 with e1
  subst e1;subst e3
  exact ⟨hb,cur,hh,r1,r2,r3,r4⟩
theorem own_cell {w:World} {base:Nat} {e:TypeId} {size g n cap:Nat} {xs:List Value} (h:w.ownsRow base e size (.slice (some ⟨g,0,none⟩) n cap) n xs) {i:Nat} {u:Value} (hi:xs[i]?=some u):w.cell? ⟨g,i,none⟩=some u:=by
 obtain ⟨h1,h2,cur,hB,h3,h4,h5,h6⟩:=OwnAt.parts h
 rw [hB.cell i]
 rw [←h6,List.getElem?_take] at hi
 split at hi
 ·simpa using hi
 ·cases hi
theorem own_set {w:World} {base:Nat} {e:TypeId} {size g n cap:Nat} {xs:List Value} (h:w.ownsRow base e size (.slice (some ⟨g,0,none⟩) n cap) n xs) (i:Nat) (u:Value) :
  (w.setCell ⟨g,i,none⟩ u).ownsRow base e size (.slice (some ⟨g,0,none⟩) n cap) n (xs.set i u):=by
 obtain ⟨h1,h2,cur,hB,h3,h4,h5,h6⟩:=OwnAt.parts h
 refine ⟨by rw [List.length_set];exact h1,.inr ⟨g,cap,cur.setIfInBounds i u,rfl,h2,hB.set_ i u,h3,h4,by simpa using h5,?_⟩⟩
 rw [←h6,Array.toList_setIfInBounds,List.take_set]
theorem own_frozen {w:World} {base:Nat} {e:TypeId} {size g n cap:Nat} {xs:List Value} (h:w.ownsRow base e size (.slice (some ⟨g,0,none⟩) n cap) n xs) (i:Nat):w.frozen? ⟨g,i,none⟩=false:=by
 obtain ⟨h1,h2,cur,hB,_⟩:=OwnAt.parts h
 exact hB.frozen i
end Go.Proofs.YtoeobcmmafncmaaGreatDoor
namespace Go.Proofs.YtoeobcmmafncmaaGreatDoor
open Go.RowKit
def zeroV:List Value:=[.int .i64 0,.int .i64 0,.string ⟨#[]⟩,.slice none 0 0]
theorem Blk.dw {w:World} {g:Nat} {t:TypeId} {cs:Array Value} (h:Blk w g t cs):Blk w.drew g t cs:=h
theorem Blk.neT {w:World} {g g2:Nat} {t t2:TypeId} {cs cs2:Array Value} (h:Blk w g t cs) (h2:Blk w g2 t2 cs2) (hne:t≠t2):g≠g2:=by
 intro e
 subst e
 unfold Blk at h h2
 rw [h] at h2
 simp at h2
 exact hne h2.2
theorem fill4 {X:List Value} {n:Nat} (h:X.length=n*4) (u0 u1 u2 u3:Value):((((X++zeroV).set (n*4) u0).set (n*4+1) u1).set (n*4+2) u2).set (n*4+3) u3=X++[u0,u1,u2,u3]:=by
 simp [h,zeroV]
theorem ho_put (ga c:Nat) (l:List Int) (W:World) (b k0:Nat) (v0:Value) (xs:List Value) (BA:Blk W ga 3 (ints l).toArray) (hn:l.length≤100) (hk0:k0≤1000)
  (BV:Blk W b 162 #[.int .i64 3,.int .i64 0,.string ⟨#[]⟩,v0]) (hown:W.ownsRow (b+1) 162 4 v0 k0 xs) :
  Calls Tryz.prog 135 #[.slice (some ⟨ga,0,none⟩) l.length c,.pointer (some ⟨b,0,none⟩)] W (fun e w'=>e = .returned (.tuple #[])∧Below b W w'∧∃ v,Blk w' b 162 #[.int .i64 3,.int .i64 0,.string ⟨#[]⟩,v]∧w'.ownsRow (b+1) 162 4 v (k0+l.length) (xs++(l.map It.int).flatMap It.cells)):=by
 go_enter Tryz.func135,Tryz.ntmps135
 go_wp2_with fail
 have hbs0:b+1≤W.heap.size:=BV.lt
 go_loopw [7] (fun i wr=>∃ (k:Nat) (v:Value),k≤l.length∧i = .int .i64 k∧Below b W wr∧W.heap.size≤wr.heap.size∧Blk wr ga 3 (ints l).toArray∧Blk wr b 162 #[.int .i64 3,.int .i64 0,.string ⟨#[]⟩,v]∧wr.ownsRow (b+1) 162 4 v (k0+k) (xs++((l.take k).map It.int).flatMap It.cells)) (fun i _=>l.length - (intOf i).toNat)
 case atStart=>exact ⟨0,_,Nat.zero_le _,rfl,Below.refl _ _,Nat.le_refl _,BA,BV,by simpa using hown⟩
 case round =>
  clear BV BA hown
  obtain ⟨k,v,hk,rfl,hb,hsz,BA,BV,hown⟩:=hrel
  have c3:wr.cell? ⟨b,3,none⟩=some v:=BV.cell 3
  have z3:=BV.frozen 3
  by_cases hlt:k<l.length
  ·obtain ⟨x,hx⟩:∃ x,Hid (l[k]?=some x):=⟨_,Lib.hid (List.getElem?_eq_getElem hlt)⟩
   have d0:wr.cell? ⟨ga,k,none⟩=some (.int .i64 x):=by rw [BA.cell k];simp [ints,hx.out]
   have hsn:Hid (xs++((l.take (k+1)).map It.int).flatMap It.cells=(xs++((l.take k).map It.int).flatMap It.cells)++(It.int x).cells):=by
    obtain ⟨hk,rfl⟩:=List.getElem?_eq_some_iff.1 hx.out
    show _=_
    rw [List.take_succ_eq_append_getElem hk,List.map_append,List.flatMap_append];simp
   have hbs:b+1≤wr.heap.size:=BV.lt
   have h63:(k0+k)+1≤maxLen:=by unfold maxLen;omega
   have hby:((k0+k)+1)*56≤140737488355328:=by omega
   generalize hX:xs++((l.take k).map It.int).flatMap It.cells=X at *
   obtain ⟨n0,hn0⟩:∃ n0,n0=k0+k:=⟨_,rfl⟩
   rw [←hn0] at hown h63 hby
   replace hn0:=Lib.hid hn0
   have hXl:X.length=n0*4:=hown.1
   obtain ⟨A2,c2,hv,_⟩:=Sl.of_own hown
   subst hv
   have KS:Hid (∀ w',Below wr.heap.size wr w'→w'.cell? ⟨b,3,none⟩=some (.slice A2 n0 c2)):=Lib.hid (fun w' h=>(BV.below h BV.lt).cell 3)
   go_upto_region 3 with fail
   clear c3 z3 d0
   have hownD:(wr.alloc (.cells #[.int .i64 0,.int .i64 0,.string ⟨#[]⟩,.slice none 0 0] 162)).drew.ownsRow (b+1) 162 4 (.slice A2 n0 c2) n0 X:=ownsRow_keep hown (bDr (bAl (bRefl wr) _))
   have BZ:Blk (wr.alloc (.cells #[.int .i64 0,.int .i64 0,.string ⟨#[]⟩,.slice none 0 0] 162)).drew wr.heap.size 162 zeroV.toArray:=Blk.dw (Blk.new wr _ _ _ rfl)
   have hsD:b+1≤(wr.alloc (.cells #[.int .i64 0,.int .i64 0,.string ⟨#[]⟩,.slice none 0 0] 162)).drew.heap.size:=by show b+1≤(wr.alloc _).heap.size;simp;omega
   have BVD:Blk (wr.alloc (.cells #[.int .i64 0,.int .i64 0,.string ⟨#[]⟩,.slice none 0 0] 162)).drew b 162 #[.int .i64 3,.int .i64 0,.string ⟨#[]⟩,.slice A2 n0 c2]:=Blk.dw (BV.alloc _)
   have BAD:Blk (wr.alloc (.cells #[.int .i64 0,.int .i64 0,.string ⟨#[]⟩,.slice none 0 0] 162)).drew ga 3 (ints l).toArray:=Blk.dw (BA.alloc _)
   have hbD:Below b W (wr.alloc (.cells #[.int .i64 0,.int .i64 0,.string ⟨#[]⟩,.slice none 0 0] 162)).drew:=hb.trans ((bDr (bAl (bRefl wr) _)).mono (by omega))
   have hone:∀ u∈zeroV,u.oneCell'=true:=by intro u hu;simp [zeroV] at hu;rcases hu with rfl | rfl | rfl | rfl <;> rfl
   have hlt1:(n0:Int)<(n0:Int)+1:=by omega
   refine wp_region_schT (f:=6) KS [(0,1),(1,2),(2,1),(3,1),(4,1),(5,0),(6,3),(7,1),(9,1),(8,4),(10,4)] ?_
   simp only [pickS,List.getElem?_cons_zero,List.getElem?_cons_succ]
   refine wpSchedT_t ?_
   refine wpSchedT_r ?_
   refine wpSchedT_t ?_
   refine wpSchedT_t ?_
   refine wpSchedT_t ?_
   refine wpSchedT_force (fun K hK=>?_)
   first | (refine step_appendB (by rfl) (.tmp 12) (.tmp 16) 160 (by rfl) (b+1) 162 (.agg #[.int .i64 0,.int .i64 0,.string ⟨#[]⟩,.slice none 0 0]) 4 56 Tryz.underlying160 value_info rfl (by omega) (.slice A2 n0 c2) n0 X (by rfl) hownD wr.heap.size 162 1 1 zeroV (by rfl) BZ rfl (by omega) hone h63 hby hsD ?_;intro v' w' hown4 hg4;obtain ⟨g',cap',rfl⟩:=ownsRow_succ hown4) | (go_simp)
   refine shut_go hK KS ?_
   clear hK K
   refine wpSchedT_on (fun K hK=>?_)
   first | (refine step_appendB (by rfl) (.tmp 12) (.tmp 16) 160 (by rfl) (b+1) 162 (.agg #[.int .i64 0,.int .i64 0,.string ⟨#[]⟩,.slice none 0 0]) 4 56 Tryz.underlying160 value_info rfl (by omega) (.slice A2 n0 c2) n0 X (by rfl) hownD wr.heap.size 162 1 1 zeroV (by rfl) BZ rfl (by omega) hone h63 hby hsD ?_;intro v' w' hown4 hg4;obtain ⟨g',cap',rfl⟩:=ownsRow_succ hown4) | (go_simp)
   refine shut_on hK ?_
   clear hK K
   refine wpSchedT_t ?_
   refine wpSchedT_t ?_
   refine wpSchedT_two ?_ ?_ <;> simp only [List.map_cons,List.map_nil,List.cons_append,List.nil_append]
   all_goals
    have b4:=hg4.below hownD hsD
    have BV4:=BVD.below b4 (by omega)
    have BA4:=hg4.blk hownD BAD (by decide)
    have hb4:=hbD.trans (b4.mono (by omega))
    have c4:=val_cell BV4
    have z4:=BV4.frozen 3
    have hXZ:∀ j,(X++zeroV)[n0*4+j]?=zeroV[j]?:=fun j=>by rw [List.getElem?_append_right (by omega),hXl];congr 1;omega
    have y0:w'.cell? ⟨g',n0*4,none⟩=some (.int .i64 0):=own_cell hown4 (hXZ 0)
    have y1:w'.cell? ⟨g',n0*4+1,none⟩=some (.int .i64 0):=own_cell hown4 (hXZ 1)
    have y2:w'.cell? ⟨g',n0*4+2,none⟩=some (.string ⟨#[]⟩):=own_cell hown4 (hXZ 2)
    have y3:w'.cell? ⟨g',n0*4+3,none⟩=some (.slice none 0 0):=own_cell hown4 (hXZ 3)
    have f0:=own_frozen hown4 (n0*4)
    have f1:=own_frozen hown4 (n0*4+1)
    have f2:=own_frozen hown4 (n0*4+2)
    have f3:=own_frozen hown4 (n0*4+3)
    have hgb:b≠g':=by have:=(OwnAt.parts hown4).2.1;omega
    clear KS hownD BZ hsD BVD BAD hbD hXZ hb BA BV hown
    go_wp2_with fail
    have hga:ga≠g':=by obtain ⟨_,_,cur,hB,_⟩:=OwnAt.parts hown4;exact BA4.neT hB (by decide)
    have hgab:ga≠b:=BA4.neT BV4 (by decide)
    have hgb2:b≤g':=by have:=(OwnAt.parts hown4).2.1;omega
    have hsz4:W.heap.size≤w'.heap.size:=Nat.le_trans hsz (Nat.le_trans (by simp) b4.size)
    have hfl:=fill4 hXl (.int .i64 1) (.int .i64 x) (.string ⟨#[]⟩) (.slice none 0 0)
    clear c4 z4 y0 y1 y2 y3 f0 f1 f2 f3 hone
    refine NoPanic.normal ?_
    go_wp2_with fail
   ·refine ⟨⟨k+1,_,by omega,by go_num,((((hb4.setCell (p:=⟨g',n0*4,none⟩) hgb2 _).setCell (p:=⟨g',n0*4+1,none⟩) hgb2 _).setCell (p:=⟨g',n0*4+2,none⟩) hgb2 _).setCell (p:=⟨g',n0*4+3,none⟩) hgb2 _).setCell (p:=⟨b,3,none⟩) (Nat.le_refl _) _,by simpa using hsz4,((((BA4.far (p:=⟨g',n0*4,none⟩) hga _).far (p:=⟨g',n0*4+1,none⟩) hga _).far (p:=⟨g',n0*4+2,none⟩) hga _).far (p:=⟨g',n0*4+3,none⟩) hga _).far (p:=⟨b,3,none⟩) hgab _,
     ((((BV4.far (p:=⟨g',n0*4,none⟩) hgb _).far (p:=⟨g',n0*4+1,none⟩) hgb _).far (p:=⟨g',n0*4+2,none⟩) hgb _).far (p:=⟨g',n0*4+3,none⟩) hgb _).set_ 3 _,?_⟩,by simp [intOf];omega⟩
    have:=ownsRow_set (own_set (own_set (own_set (own_set hown4 (n0*4) (.int .i64 1)) (n0*4+1) (.int .i64 x)) (n0*4+2) (.string ⟨#[]⟩)) (n0*4+3) (.slice none 0 0)) (p:=⟨b,3,none⟩) (by show b<b+1;omega) (.slice (some ⟨g',0,none⟩) (n0+1) cap')
    rw [hfl] at this
    have hn1:k0+(k+1)=n0+1:=by have:=hn0.out;omega
    rw [hsn.out,hn1]
    exact this
   ·refine ⟨⟨k+1,_,by omega,by go_num,((((hb4.setCell (p:=⟨b,3,none⟩) (Nat.le_refl _) _).setCell (p:=⟨g',n0*4,none⟩) hgb2 _).setCell (p:=⟨g',n0*4+1,none⟩) hgb2 _).setCell (p:=⟨g',n0*4+2,none⟩) hgb2 _).setCell (p:=⟨g',n0*4+3,none⟩) hgb2 _,by simpa using hsz4,((((BA4.far (p:=⟨b,3,none⟩) hgab _).far (p:=⟨g',n0*4,none⟩) hga _).far (p:=⟨g',n0*4+1,none⟩) hga _).far (p:=⟨g',n0*4+2,none⟩) hga _).far (p:=⟨g',n0*4+3,none⟩) hga _,
     ((((BV4.set_ 3 _).far (p:=⟨g',n0*4,none⟩) hgb _).far (p:=⟨g',n0*4+1,none⟩) hgb _).far (p:=⟨g',n0*4+2,none⟩) hgb _).far (p:=⟨g',n0*4+3,none⟩) hgb _,?_⟩,by simp [intOf];omega⟩
    have:=own_set (own_set (own_set (own_set (ownsRow_set hown4 (p:=⟨b,3,none⟩) (by show b<b+1;omega) (.slice (some ⟨g',0,none⟩) (n0+1) cap')) (n0*4) (.int .i64 1)) (n0*4+1) (.int .i64 x)) (n0*4+2) (.string ⟨#[]⟩)) (n0*4+3) (.slice none 0 0)
    rw [hfl] at this
    have hn1:k0+(k+1)=n0+1:=by have:=hn0.out;omega
    rw [hsn.out,hn1]
    exact this
  ·have hkn:k=l.length:=by omega
   clear c3 z3
   replace hkn:=Lib.hid hkn
   go_wp2_with fail
   go_end0
   refine ⟨rfl,hb,v,BV,?_⟩
   have:=hkn.out
   subst this
   rw [List.take_length] at hown
   exact hown
end Go.Proofs.YtoeobcmmafncmaaGreatDoor

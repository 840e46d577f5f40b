/- The reference's Same of links and of letters that are the same; walked. -/
import Derived.Test.YthbibbkbaphpkaaGreatDoorMaz
import Derived.Test.YthbibbkbaphpkaaGreatDoorMba
import Derived.Test.YthbibbkbaphpkaaGreatDoorMbb
import Derived.Test.YthbibbkbaphpkaaGreatDoorMbc
set_option maxHeartbeats 16000000
set_option maxRecDepth 1000000
namespace Go.Proofs.YthbibbkbaphpkaaGreatDoor
open _root_.Go.Proofs.Tryz
section
open Go Go.RowKit
theorem Yf {x:Lnk} {v:Value} (h:x.ok):(x.cl v).toArray.size=35∧(x.cl v).toArray[0]?=some (.int .i64 x.node)∧(x.cl v).toArray[1]?=some (.int .i64 x.no)∧(x.cl v).toArray[34]?=some v∧∀ j u,(ag x.prev)[j]?=some u→(x.cl v).toArray[2+j]?=some u:=by
 have h0:(x.cl v).toArray[0]?=some (.int .i64 x.node):=by rw [aaG];rfl
 have h1:(x.cl v).toArray[1]?=some (.int .i64 x.no):=by rw [aaG];rfl
 refine ⟨by simpa using Lnk.cl_length h,h0,h1,?_,?_⟩
 ·rw [aaG]
  unfold Lnk.cl;rw [aaz (by simp),aaz (by rw [ai,h.2.2.1.1];simp),ai,h.2.2.1.1];rfl
 ·intro j u hu
  rw [aaG];unfold Lnk.cl;rw [aaz (by simp),show 2+j - [Value.int .i64 x.node,.int .i64 x.no].length=j by simp,aaO (aag.1 hu).1];exact hu
end
section
open Go.RowKit
abbrev Yj (n:Int):Value := .agg #[.int .i64 1,.int .i64 n,.string ⟨#[]⟩,.slice none 0 0]
abbrev Yy (s:ByteArray):Value := .agg #[.int .i64 2,.int .i64 0,.string s,.slice none 0 0]
theorem X0 (n:Int) (W:World):Calls prog 115 #[.int .i64 n] W (Ret (Yj n) W):=by
 have hb:=bAl (aj W) (.cells #[.int .i64 1,.int .i64 n,.string ⟨#[]⟩,.slice none 0 0] 169);go_enter func115,ntmps115;go_wp2_with fail;exact bodyPost_ret (v:=Yj n) (by simp [results,results115,go_sem,Yj]) rfl ⟨rfl,hb⟩
def Yx (l:List It) (W:World) (r:Ending) (w':World):Prop:=∃ A c,r = .returned (gJ A l.length c)∧Below W.heap.size W w'∧Rd w' w'.heap.size 4 A l.length (l.flatMap It.cells)
def Yv (l:List It) (W:World) (r:Ending) (w':World):Prop:=∃ A c,r = .returned (gJ A l.length c)∧Below W.heap.size W w'∧w'.ownsRow W.heap.size 169 4 (.slice A l.length c) l.length (l.flatMap It.cells)
theorem Yg (A:Option Addr) (n c:Nat) (l:List Int) (W:World) (hA:Rd W W.heap.size 1 A n (ints l)) (hn:n≤100) :
  Calls prog 113 #[.slice A n c] W (Yv (l.map It.int) W):=by
 obtain rfl:l.length=n:=by have:=hA.1;rw [lU,aaA] at this;exact this
 go_enter func113,ntmps113;go_upto_region 2 with fail;have BR:=(Blk.new W 169 #[.int .i64 0,.int .i64 0,.string ⟨#[]⟩,.slice none 0 0] _ rfl).alloc (.cells #[.int .i64 3,.int .i64 0,.string ⟨#[]⟩,.slice none 0 0] 169);have BV:=Blk.new (W.alloc (.cells #[.int .i64 0,.int .i64 0,.string ⟨#[]⟩,.slice none 0 0] 169)) 169 #[.int .i64 3,.int .i64 0,.string ⟨#[]⟩,.slice none 0 0] (W.heap.size+1) (by simp);have hb:=bAl (bAl (aj W) (.cells #[.int .i64 0,.int .i64 0,.string ⟨#[]⟩,.slice none 0 0] 169)) (.cells #[.int .i64 3,.int .i64 0,.string ⟨#[]⟩,.slice none 0 0] 169);generalize (W.alloc (.cells #[.int .i64 0,.int .i64 0,.string ⟨#[]⟩,.slice none 0 0] 169)).alloc (.cells #[.int .i64 3,.int .i64 0,.string ⟨#[]⟩,.slice none 0 0] 169)=w1 at *;go_wp2_with fail;go_loopw [4] (fun i wr=>∃ (k:Nat) (v:Value),k≤l.length∧i = .int .i64 k∧Below W.heap.size W wr∧Blk wr W.heap.size 169 #[.int .i64 0,.int .i64 0,.string ⟨#[]⟩,.slice none 0 0]∧Blk wr (W.heap.size+1) 169 #[.int .i64 3,.int .i64 0,.string ⟨#[]⟩,v]∧wr.ownsRow (W.heap.size+2) 169 4 v k (((l.take k).map It.int).flatMap It.cells)) (fun i _=>l.length - (intOf i).toNat)
 case atStart=>exact ⟨0,_,aao _,rfl,hb,BR,BV,World.ownsRow_nil _ _ _ _⟩
 case round =>
  clear hb BV BR;obtain ⟨k,v,hk,rfl,hb,BR,BV,hown⟩:=hrel;by_cases hlt:k<l.length
  ·obtain ⟨x,hx⟩:∃ x,Hid (l[k]?=some x):=⟨_,aab (aac hlt)⟩
   obtain ⟨b,off,rfl,hbb,d0⟩:=jq (hA.below hb) hlt hx.out
   have hsn:Hid (((l.take (k+1)).map It.int).flatMap It.cells=((l.take k).map It.int).flatMap It.cells++(It.int x).cells):=by
    obtain ⟨hk,rfl⟩:=aag.1 hx.out;show _=_;rw [aaB hk,aaT,aaP];simp
   have hbs:W.heap.size+1<wr.heap.size:=BV.lt;have hone:=xY (.int x);have h63:k+1≤maxLen:=(by unfold maxLen;omega);have hby:(k+1)*56≤140737488355328:=(by omega);have i0:(0:Int)≤(k:Int):=(by omega);have i1:(k:Int)<(l.length:Int):=(by omega);have KS:Hid (∀ w',Below wr.heap.size wr w'→w'.cell? ⟨W.heap.size+1,3,none⟩=some v∧w'.cell? ⟨b,off+k,none⟩=some (.int .i64 x)):=aab (fun w' h=>⟨(BV.below h BV.lt).cell 3,(h.cell (p:=⟨b,off+k,none⟩) (aaS hbb hb.size)).trans d0⟩);clear d0;go_upto_region 5 with fail;refine aK (f:=8) KS [(0,1),(1,2),(2,1),(3,1),(4,1),(5,2),(6,0),(7,0),(8,3),(9,3),(10,3)] ?_;simp only [bf,aap,aar];refine ak ?_;refine ax ?_
   iterate 3 refine ak ?_
   refine ax ?_;refine au (fun K hK=>?_);go_simp;(first | (go_at_call 115;(with_reducible refine (X0 x wr.drew).mono ?_);unfold Yj;rintro e w9 ⟨rfl,b9⟩;have B7:Below wr.heap.size wr w9:=ah (bDr (aj _)) b9) | skip);refine aH hK KS ?_;clear hK K;refine au (fun K hK=>?_);go_simp;(first | (go_at_call 115;(with_reducible refine (X0 x wr.drew).mono ?_);unfold Yj;rintro e w9 ⟨rfl,b9⟩;have B7:Below wr.heap.size wr w9:=ah (bDr (aj _)) b9) | skip);refine aH hK KS ?_;clear hK K;refine aN ?_
   first | simp only [aak] | simp only [aat,aak]
   have hown9:w9.ownsRow (W.heap.size+2) 169 4 v k _:=aC hown B7;have BV9:=BV.below B7 BV.lt;have BR9:=BR.below B7 BR.lt;have hb9:=ah hb B7;have hs9:W.heap.size+2≤w9.heap.size:=aaj hbs B7.size;refine aO w9 [.int .i64 1,.int .i64 x,.string ⟨#[]⟩,.slice none 0 0] (.tmp 13) (.tmp 19) 167 (W.heap.size+2) 169 (.agg #[.int .i64 0,.int .i64 0,.string ⟨#[]⟩,.slice none 0 0]) 4 56 v k (((l.take k).map It.int).flatMap It.cells) (by rfl) (by rfl) underlying167 gB rfl (by omega) (by rfl) hown9 (by rfl) rfl hone h63 hby hs9 ?_;intro v' w' hown4 hg4;obtain ⟨g',cap',rfl⟩:=ownsRow_succ hown4;have b4:=hg4.below hown9 hs9;have BV4:=BV9.below b4 (by omega);have BR4:=BR9.below b4 (by omega);have c4:=kV BV4;have z4:=BV4.frozen 3;have hb4:=hb9.trans (b4.mono (by omega));clear KS B7 hown9 BV9 BR9 hb9 hs9 b4 hown hb BR BV hg4;go_wp2_with fail;refine NoPanic.normal ?_;go_wp2_with fail;exact ⟨⟨k+1,_,by omega,by go_num,zQ7 hb4 (by show W.heap.size≤W.heap.size+1;omega) _,BR4.far (by show W.heap.size≠W.heap.size+1;omega) _,BV4.set_ 3 _,by rw [hsn.out];exact gX hown4 (p:=⟨W.heap.size+1,3,none⟩) (by show W.heap.size+1<W.heap.size+2;omega) _⟩,by simp [intOf];omega⟩
  ·have hkn:k=l.length:=by omega
   rw [hkn,abk] at hown;clear hkn;obtain ⟨A2,c2,hv,hR,_⟩:=Sl.of_own hown;subst hv;obtain ⟨e0,e1,e2,e3⟩:=dY BV;have z0:=BR.frozen 0;have z1:=BR.frozen 1;have z2:=BR.frozen 2;have z3:=BR.frozen 3;obtain ⟨y0,y1,y2,y3⟩:=dY BR;have hlm:Hid ((l.map It.int).length=l.length):=(by show _=_;simp);have hown2:=gX (gX (gX (gX hown (p:=⟨W.heap.size,0,none⟩) (by show W.heap.size<W.heap.size+2;omega) (.int .i64 3)) (p:=⟨W.heap.size,1,none⟩) (by show W.heap.size<W.heap.size+2;omega) (.int .i64 0)) (p:=⟨W.heap.size,2,none⟩) (by show W.heap.size<W.heap.size+2;omega) (.string ⟨#[]⟩)) (p:=⟨W.heap.size,3,none⟩) (by show W.heap.size<W.heap.size+2;omega) (.slice A2 l.length c2);have hb2:=zQ7 (zQ7 (zQ7 (zQ7 hb (p:=⟨W.heap.size,0,none⟩) (aad _) (.int .i64 3)) (p:=⟨W.heap.size,1,none⟩) (aad _) (.int .i64 0)) (p:=⟨W.heap.size,2,none⟩) (aad _) (.string ⟨#[]⟩)) (p:=⟨W.heap.size,3,none⟩) (aad _) (.slice A2 l.length c2);have BR2:=(((BR.set_ 0 (.int .i64 3)).set_ 1 (.int .i64 0)).set_ 2 (.string ⟨#[]⟩)).set_ 3 (.slice A2 l.length c2);go_wp2_with fail;generalize (((wr.setCell ⟨W.heap.size,0,none⟩ (.int .i64 3)).setCell ⟨W.heap.size,1,none⟩ (.int .i64 0)).setCell ⟨W.heap.size,2,none⟩ (.string ⟨#[]⟩)).setCell ⟨W.heap.size,3,none⟩ (.slice A2 l.length c2)=w8 at *;have r0:w8.cell? ⟨W.heap.size,0,none⟩=some (.int .i64 3):=(by simpa using BR2.cell 0);have r1:w8.cell? ⟨W.heap.size,1,none⟩=some (.int .i64 0):=(by simpa using BR2.cell 1);have r2:w8.cell? ⟨W.heap.size,2,none⟩=some (.string ⟨#[]⟩):=by simpa using BR2.cell 2
   have r3:w8.cell? ⟨W.heap.size,3,none⟩=some (.slice A2 l.length c2):=(by simpa using BR2.cell 3);exact bodyPost_ret (v:=gJ A2 l.length c2) (by simp [results,results113,go_sem,gJ,r0,r1,r2,r3]) rfl ⟨A2,c2,by rw [hlm.out],hb2,by rw [hlm.out];exact own_base hown2 (by omega)⟩
theorem Yk (A:Option Addr) (n c:Nat) (l:List Int) (W:World) (hA:Rd W W.heap.size 1 A n (ints l)) (hn:n≤100) :
  Calls prog 113 #[.slice A n c] W (Yx (l.map It.int) W):=by
 refine (Yg A n c l W hA hn).mono ?_;rintro e w ⟨A2,c2,rfl,hb,ho⟩;obtain ⟨A3,c3,hv,hR,_⟩:=Sl.of_own ho;injection hv with hA3 _ hc3
 subst hA3;subst hc3;exact ⟨_,_,rfl,hb,hR⟩
theorem XO (n:Int) (W:World):Calls prog 106 #[.int .i64 n] W (Same (.bool (tmB n)) W):=by
 obtain ⟨v,hv⟩:∃ v,Hid (v=tmB n):=⟨_,aab rfl⟩
 rw [←hv.out];by_cases h1:0≤n
 ·by_cases h2 : n < 2097152
  ·have e:Hid (v=true):=aab (by rw [hv.out];unfold tmB;rw [decide_eq_true h1,decide_eq_true h2];rfl)
   go_enter func106,ntmps106;go_wp2_with fail;go_ret;exact ⟨aI (by rw [e.out]),rfl⟩
  ·have e:Hid (v=false):=aab (by rw [hv.out];unfold tmB;rw [decide_eq_false h2,Bool.and_false])
   go_enter func106,ntmps106;go_wp2_with fail;go_ret;exact ⟨aI (by rw [e.out]),rfl⟩
 ·have e:Hid (v=false):=aab (by rw [hv.out];unfold tmB;rw [decide_eq_false h1,Bool.false_and])
  go_enter func106,ntmps106;go_wp2_with fail;go_ret;exact ⟨aI (by rw [e.out]),rfl⟩
def Hd.runB (h:Hd):Bool:=decide (0≤h.line)&&(decide (h.line<64)&&(tmB h.at_&&tmB h.arrive))
def Hd.offB (h:Hd):Bool:=decide (0≤h.from_)&&(decide (h.from_<24)&&(decide (-1≤h.to_)&&(decide (h.to_<24)&&decide (h.from_≠h.to_))))
def Hd.endB (h:Hd):Bool:=decide (0≤h.leg)&&(decide (h.leg≤8)&&(decide (0≤h.many)&&(decide (h.many≤64)&&tmB h.time)))
theorem Hd.formed_eq (h:Hd):h.formed=(h.runB&&(h.offB&&h.endB)):=by
 unfold Hd.formed Hd.runB Hd.offB Hd.endB;simp only [Bool.decide_and];cases tmB h.at_ <;> cases tmB h.arrive <;> cases tmB h.time <;> simp [Bool.and_assoc,Bool.and_comm,Bool.and_left_comm]
theorem XW (h:Hd) (ho:h.ok) (W:World):Calls prog 28 #[.agg h.cl.toArray] W (Ret (.bool h.formed) W):=by
 obtain ⟨cs,hcs⟩:∃ cs,h.cl.toArray=cs:=⟨_,rfl⟩
 rw [hcs,Hd.formed_eq];have BH:=Blk.new W 33 cs _ rfl;have hb:=bAl (aj W) (.cells cs 33);obtain ⟨c0,c1,c2,c3,c4,c5,c6,c39,c40,c41⟩:=HdAt.of BH hcs.symm ho;have q1:=aab (fun w=>XO h.at_ w);have q2:=aab (fun w=>XO h.arrive w);have q3:=aab (fun w=>XO h.time w);obtain ⟨R,hR⟩:∃ R,Hid (R=h.runB):=⟨_,aab rfl⟩
 obtain ⟨O,hO⟩:∃ O,Hid (O=h.offB):=⟨_,aab rfl⟩
 obtain ⟨E,hE⟩:∃ E,Hid (E=h.endB):=⟨_,aab rfl⟩
 rw [←hR.out,←hO.out,←hE.out];go_enter func28,ntmps28;go_upto_region 1 with fail;generalize W.alloc (.cells cs 33)=w1 at *;go_cut [3] (fun s3 wc=>s3 = .bool R∧wc=w1)
 case first =>
  by_cases k0:0≤h.line
  case neg =>
   have e:Hid (R=false):=aab (by rw [hR.out];unfold Hd.runB;simp [k0]);clear hR;go_wp2_with (first | (go_at_call 106;(first | (with_reducible refine (q1.out _).mono ?_) | (with_reducible refine (q2.out _).mono ?_));rintro e w3 ⟨rfl,rfl⟩) | fail)
   go_meet;exact ⟨by rw [e.out];try simpa using k4,rfl⟩
  by_cases k1:h.line<64
  case neg =>
   have e:Hid (R=false):=aab (by rw [hR.out];unfold Hd.runB;simp [k0,k1]);clear hR;go_wp2_with (first | (go_at_call 106;(first | (with_reducible refine (q1.out _).mono ?_) | (with_reducible refine (q2.out _).mono ?_));rintro e w3 ⟨rfl,rfl⟩) | fail)
   go_meet;exact ⟨by rw [e.out];try simpa using k4,rfl⟩
  cases k2:tmB h.at_
  case false =>
   rw [k2] at q1;have e:Hid (R=false):=aab (by rw [hR.out];unfold Hd.runB;simp [k0,k1,k2]);clear hR;go_wp2_with (first | (go_at_call 106;(first | (with_reducible refine (q1.out _).mono ?_) | (with_reducible refine (q2.out _).mono ?_));rintro e w3 ⟨rfl,rfl⟩) | fail)
   go_meet;exact ⟨by rw [e.out];try simpa using k4,rfl⟩
  rw [k2] at q1;cases k3:tmB h.arrive
  case false =>
   rw [k3] at q2;have e:Hid (R=false):=aab (by rw [hR.out];unfold Hd.runB;simp [k0,k1,k2,k3]);clear hR;go_wp2_with (first | (go_at_call 106;(first | (with_reducible refine (q1.out _).mono ?_) | (with_reducible refine (q2.out _).mono ?_));rintro e w3 ⟨rfl,rfl⟩) | fail)
   go_meet;exact ⟨by rw [e.out];try simpa using k4,rfl⟩
  rw [k3] at q2;have e:Hid (R=true):=aab (by rw [hR.out];unfold Hd.runB;simp [k0,k1,k2,k3]);clear hR;go_wp2_with (first | (go_at_call 106;(first | (with_reducible refine (q1.out _).mono ?_) | (with_reducible refine (q2.out _).mono ?_));rintro e w3 ⟨rfl,rfl⟩) | fail)
  go_meet;exact ⟨by rw [e.out];try simpa using k4,rfl⟩
 case rest =>
  obtain ⟨rfl,rfl⟩:=hcut;clear q1 q2;go_upto_region 2 with fail;go_cut [4] (fun s4 wd=>s4 = .bool O∧wd=wc)
  case first =>
   by_cases k0:0≤h.from_
   case neg =>
    have e:Hid (O=false):=aab (by rw [hO.out];unfold Hd.offB;simp [k0]);clear hO;go_wp2_with fail;go_meet;exact ⟨by rw [e.out];try simpa using k4,rfl⟩
   by_cases k1:h.from_<24
   case neg =>
    have e:Hid (O=false):=aab (by rw [hO.out];unfold Hd.offB;simp [k0,k1]);clear hO;go_wp2_with fail;go_meet;exact ⟨by rw [e.out];try simpa using k4,rfl⟩
   by_cases k2:-1≤h.to_
   case neg =>
    have e:Hid (O=false):=aab (by rw [hO.out];unfold Hd.offB;simp [k0,k1,k2]);clear hO;go_wp2_with fail;go_meet;exact ⟨by rw [e.out];try simpa using k4,rfl⟩
   by_cases k3:h.to_<24
   case neg =>
    have e:Hid (O=false):=aab (by rw [hO.out];unfold Hd.offB;simp [k0,k1,k2,k3]);clear hO;go_wp2_with fail;go_meet;exact ⟨by rw [e.out];try simpa using k4,rfl⟩
   by_cases k4:h.from_≠h.to_
   case neg =>
    have e:Hid (O=false):=aab (by rw [hO.out];unfold Hd.offB;simp [k0,k1,k2,k3,k4]);clear hO;go_wp2_with fail;go_meet;exact ⟨by rw [e.out];try simpa using k4,rfl⟩
   have e:Hid (O=true):=aab (by rw [hO.out];unfold Hd.offB;simp [k0,k1,k2,k3,k4]);clear hO;go_wp2_with fail;go_meet;exact ⟨by rw [e.out];try simpa using k4,rfl⟩
  case rest =>
   obtain ⟨rfl,rfl⟩:=hcut;cases R
   case false =>
    go_wp2_with fail;go_ret;exact ⟨aI (by simp),hb⟩
   cases O
   case false =>
    go_wp2_with fail;go_ret;exact ⟨aI (by simp),hb⟩
   clear hR hO;by_cases k0:0≤h.leg
   case neg =>
    have e:Hid (E=false):=aab (by rw [hE.out];unfold Hd.endB;simp [k0]);clear hE;go_wp2_with (first | (go_at_call 106;(first | (with_reducible refine (q3.out _).mono ?_));rintro e w3 ⟨rfl,rfl⟩) | fail)
    go_ret;exact ⟨aI (by rw [e.out];try rfl),hb⟩
   by_cases k1:h.leg≤8
   case neg =>
    have e:Hid (E=false):=aab (by rw [hE.out];unfold Hd.endB;simp [k0,k1]);clear hE;go_wp2_with (first | (go_at_call 106;(first | (with_reducible refine (q3.out _).mono ?_));rintro e w3 ⟨rfl,rfl⟩) | fail)
    go_ret;exact ⟨aI (by rw [e.out];try rfl),hb⟩
   by_cases k2:0≤h.many
   case neg =>
    have e:Hid (E=false):=aab (by rw [hE.out];unfold Hd.endB;simp [k0,k1,k2]);clear hE;go_wp2_with (first | (go_at_call 106;(first | (with_reducible refine (q3.out _).mono ?_));rintro e w3 ⟨rfl,rfl⟩) | fail)
    go_ret;exact ⟨aI (by rw [e.out];try rfl),hb⟩
   by_cases k3:h.many≤64
   case neg =>
    have e:Hid (E=false):=aab (by rw [hE.out];unfold Hd.endB;simp [k0,k1,k2,k3]);clear hE;go_wp2_with (first | (go_at_call 106;(first | (with_reducible refine (q3.out _).mono ?_));rintro e w3 ⟨rfl,rfl⟩) | fail)
    go_ret;exact ⟨aI (by rw [e.out];try rfl),hb⟩
   cases k4:tmB h.time
   case false =>
    rw [k4] at q3;have e:Hid (E=false):=aab (by rw [hE.out];unfold Hd.endB;simp [k0,k1,k2,k3,k4]);clear hE;go_wp2_with (first | (go_at_call 106;(first | (with_reducible refine (q3.out _).mono ?_));rintro e w3 ⟨rfl,rfl⟩) | fail)
    go_ret;exact ⟨aI (by rw [e.out];try rfl),hb⟩
   rw [k4] at q3;have e:Hid (E=true):=aab (by rw [hE.out];unfold Hd.endB;simp [k0,k1,k2,k3,k4]);clear hE;go_wp2_with (first | (go_at_call 106;(first | (with_reducible refine (q3.out _).mono ?_));rintro e w3 ⟨rfl,rfl⟩) | fail)
   go_ret;exact ⟨aI (by rw [e.out];try rfl),hb⟩
theorem X5 (x:Ltr) (hx:∀ y∈x.its,y.ok) (W:World):Calls prog 109 #[x.agg] W (fun r w'=>∃ v,r = .returned v∧Below W.heap.size W w'∧w'.ownsRow W.heap.size 5 1 v x.txt.length (ag x.txt)):=by
 have BX:=Blk.new W 63 #[.int .i64 x.a0,.int .i64 x.b0,.int .i64 x.a1,.int .i64 x.b1,.int .i64 x.a2,.int .i64 x.b2] _ rfl;have hb:=bAl (aj W) (.cells #[.int .i64 x.a0,.int .i64 x.b0,.int .i64 x.a1,.int .i64 x.b1,.int .i64 x.a2,.int .i64 x.b2] 63);unfold Ltr.agg;go_enter func109,ntmps109;go_upto_region 1 with fail;generalize W.alloc (.cells #[.int .i64 x.a0,.int .i64 x.b0,.int .i64 x.a1,.int .i64 x.b1,.int .i64 x.a2,.int .i64 x.b2] 63)=w1 at *;obtain ⟨c0,c1,c2,c3,c4,c5⟩:=BX.six;have q:=Yk (some ⟨w1.heap.size,0,none⟩) 6 6 [x.a0,x.b0,x.a1,x.b1,x.a2,x.b2] (w1.alloc (.cells #[.int .i64 x.a0,.int .i64 x.b0,.int .i64 x.a1,.int .i64 x.b1,.int .i64 x.a2,.int .i64 x.b2] 3)) (RdT.of_blk (n:=6) (xs:=ints [x.a0,x.b0,x.a1,x.b1,x.a2,x.b2]) (Blk.new w1 3 _ _ rfl) rfl).rd (by omega);go_wp2_with fail;refine q.mono ?_;rintro e w2 ⟨A2,c2',rfl,b2,hR⟩;have hb2:=ah (bAl hb (.cells #[.int .i64 x.a0,.int .i64 x.b0,.int .i64 x.a1,.int .i64 x.b1,.int .i64 x.a2,.int .i64 x.b2] 3)) b2;have q2:=Jh A2 6 c2' x.its w2 hR hx (by omega);unfold gJ at q2 ⊢;clear q;have ht:Hid (x.txt=bZ x.its):=aab rfl;go_wp2_with fail;refine q2.mono ?_;rintro e w3 ⟨v3,rfl,b3,hS⟩;have hb3:=ah hb2 b3;clear q2;go_wp2_with fail;go_ret;exact ⟨_,rfl,hb3,by rw [ht.out];exact own_base hS hb2.size⟩
end
section
open Go Go.RowKit
theorem Ya {l:List Int} {k:Nat} {y:Int} (h:l[k]?=some y) (hn:¬(0≤y∧y<(l.length:Int))):nS l=false:=by
 cases e:nS l with
 | false=>rfl
 | true =>
  unfold nS at e;rw [aal,aau] at e;exact absurd (of_decide_eq_true (e.1 y (aam h))) hn
theorem Yn {l:List Int} {i k:Nat} {x:Int} (hik:i<k) (h:l[i]?=some x) (h2:l[k]?=some x):nS l=false:=by
 cases e:nS l with
 | false=>rfl
 | true =>
  unfold nS at e;rw [aal,decide_eq_true_eq] at e;obtain ⟨p1,e1⟩:=aag.1 h;obtain ⟨p2,e2⟩:=aag.1 h2
  have:=abp.1 e.2 i k p1 p2 hik
  rw [e1,e2] at this;exact absurd rfl this
theorem Yo {l:List Int} (h1:∀ k y,k<l.length→l[k]?=some y→0≤y∧y<(l.length:Int)) (h2:∀ i k x y,i<k→k<l.length→l[i]?=some x→l[k]?=some y→x≠y):nS l=true:=by
 unfold nS;rw [aal,aau,decide_eq_true_eq];refine ⟨fun x hx=>?_,abp.2 (fun i j hi hj hij=>h2 i j _ _ hij hj (aac hi) (aac hj))⟩;obtain ⟨k,hk⟩:=List.mem_iff_getElem?.1 hx;exact decide_eq_true (h1 k x (aag.1 hk).1 hk)
theorem XV (A:Option Addr) (c:Nat) (l:List Int) (W:World) (hA:Rd W W.heap.size 1 A l.length (ints l)) (hn:l.length≤1000) :
  Calls prog 95 #[.slice A l.length c] W (Ret (.bool (nS l)) W):=by
 obtain ⟨v,hv⟩:∃ v,Hid (nS l=v):=⟨_,aab rfl⟩
 rw [hv.out];go_enter func95,ntmps95;go_wp2_with fail;go_loopw [3] (fun i wr=>∃ k:Nat,k≤l.length∧i = .int .i64 k∧Below W.heap.size W wr∧Hid (∀ (j:Nat) (y:Int),j<k→l[j]?=some y→0≤y∧y<(l.length:Int))∧Hid (∀ (i j:Nat) (x y:Int),i<j→j<k→l[i]?=some x→l[j]?=some y→x≠y)) (fun i _=>l.length - (intOf i).toNat)
 case atStart=>exact ⟨0,aao _,rfl,aj W,aab (fun j y h=>absurd h (Nat.not_lt_zero _)),aab (fun i j x y h h2=>absurd h2 (Nat.not_lt_zero _))⟩
 case round =>
  obtain ⟨k,hkn,rfl,hb,hr,hd⟩:=hrel;by_cases hlt:k<l.length
  ·obtain ⟨y,hy⟩:∃ y,Hid (l[k]?=some y):=⟨_,aab (aac hlt)⟩
   obtain ⟨b,off,rfl,hbb,c0⟩:=jq (hA.below hb) hlt hy.out;have i0:(0:Int)≤(k:Int):=(by omega);have i1:(k:Int)<(l.length:Int):=(by omega);by_cases hy0:y<0
   ·have hvf:=aab (hv.out.symm.trans (Ya hy.out (by omega)))
    go_wp2_with fail;go_ret;exact ⟨aI hvf.out.symm,hb⟩
   by_cases hy1:(l.length:Int)≤y
   ·have hvf:=aab (hv.out.symm.trans (Ya hy.out (by omega)))
    go_wp2_with fail;go_ret;exact ⟨aI hvf.out.symm,hb⟩
   obtain ⟨wo,rfl⟩:∃ wo,wo=wr:=⟨_,rfl⟩
   go_wp2_with fail;go_loopw [4] (fun i wq=>∃ m:Nat,m≤k∧i = .int .i64 m∧Below wo.heap.size wo wq∧Hid (∀ (j:Nat) (x:Int),j<m→l[j]?=some x→x≠y)) (fun i _=>k - (intOf i).toNat)
   case atStart=>exact ⟨0,aao _,rfl,aj wo,aab (fun j y h=>absurd h (Nat.not_lt_zero _))⟩
   case round =>
    obtain ⟨m,hmk,rfl,hb2,hm⟩:=hrel;obtain ⟨wq,rfl⟩:∃ wq,wq=wr:=⟨_,rfl⟩
    by_cases hlt2:m<k
    ·obtain ⟨x,hx⟩:∃ x,Hid (l[m]?=some x):=⟨_,aab (aac (by omega))⟩
     have hbs:=hb.size;obtain ⟨b',off',e2,hbb',c1⟩:=jq (hA.below (ah hb hb2)) (show m<l.length by omega) hx.out;injection e2 with e2
     injection e2 with e3 e4
     subst e3;subst e4;have c2:wq.cell? ⟨b,off+k,none⟩=some (.int .i64 y):=(hb2.cell (p:=⟨b,off+k,none⟩) (by show b<_;omega)).trans c0;have j0:(0:Int)≤(m:Int):=(by omega);have j1:(m:Int)<(l.length:Int):=(by omega);by_cases hxy:x=y
     ·have hne:(x==y)=true:=by simpa using hxy
      have hvf:=aab (hv.out.symm.trans (Yn hlt2 hx.out (by rw [hxy];exact hy.out)));clear hxy;go_upto_region 9 with fail;clear c0;go_quiet (fail)
      go_wp2_with fail;go_ret;exact ⟨aI hvf.out.symm,ah hb (o8 hb2 _)⟩
     ·have hne:(x==y)=false:=by simpa using hxy
      have hm2:Hid (∀ (j:Nat) (x:Int),j<m+1→l[j]?=some x→x≠y):=aab (fun j z hj hz=>by
       rcases aa0 j m with h | h
       ·exact hm.out j z h hz
       ·obtain rfl:j=m:=by omega
        rw [hx.out] at hz;injection hz with hz
        rwa [←hz])
      clear hxy;go_upto_region 9 with fail;clear c0;go_quiet (fail)
      go_wp2_with fail;exact ⟨⟨m+1,by omega,by go_num,o8 hb2 _,hm2⟩,by simp [intOf];omega⟩
    ·have hb3:=ah hb hb2
     obtain rfl:m=k:=by omega
     have hr2:Hid (∀ (j:Nat) (y:Int),j<m+1→l[j]?=some y→0≤y∧y<(l.length:Int)):=aab (fun j z hj hz=>by
      rcases aa0 j m with h | h
      ·exact hr.out j z h hz
      ·obtain rfl:j=m:=by omega
       rw [hy.out] at hz;injection hz with hz
       omega)
     have hd2:Hid (∀ (i j:Nat) (x y:Int),i<j→j<m+1→l[i]?=some x→l[j]?=some y→x≠y):=aab (fun i j x z hij hj hx hz=>by
      rcases aa0 j m with h | h
      ·exact hd.out i j x z hij h hx hz
      ·obtain rfl:j=m:=by omega
       rw [hy.out] at hz;injection hz with hz
       rw [←hz];exact hm.out i x hij hx)
     clear c0;go_wp2_with fail;exact ⟨⟨m+1,by omega,by go_num,hb3,hr2,hd2⟩,by simp [intOf];omega⟩
  ·have hvf:Hid (v=true):=aab (hv.out.symm.trans (Yo (fun j y hj h=>hr.out j y (by omega) h) (fun i j x y h h2 h3 h4=>hd.out i j x y h (by omega) h3 h4)))
   go_wp2_with fail;go_ret;exact ⟨aI hvf.out.symm,hb⟩
theorem X6 (s:TS) (t:Trn) (n:Nat) (W:World) (hT:TurnAt W W.heap.size s t) (hn:n≤64) :
  Calls prog 24 #[.agg (s.cl t),.int .i64 n] W (Ret (.bool (t.fit (n:Int))) W):=by
 obtain ⟨v,hv⟩:∃ v,Hid (t.fit (n:Int)=v):=⟨_,aab rfl⟩
 rw [hv.out]
 have hno:Hid ((t.left.length=n→t.right.length=n→t.rl.length=n→t.rr.length=n→t.salts.length=n→nS t.left=true→nS t.right=true→False)→v=false):=aab (fun h=>by
  cases e:v with
  | false=>rfl
  | true =>
   exfalso;obtain ⟨⟨h1,h2,h3,h4,h5⟩,h6,h7,h8⟩:=Trn.fit_of (hv.out.trans e);exact h h1 h2 h3 h4 h5 h7 h8)
 have BT:=Blk.new W 39 (s.cl t) _ rfl;have hb:=bAl (aj W) (.cells (s.cl t) 39);have hT1:=(hT.below hb).more hb.size
 have hBc:Hid (∀ w,Blk w W.heap.size 39 (s.cl t)→w.cell? ⟨W.heap.size,0,none⟩=some (.slice s.a0 t.left.length s.c0)∧w.cell? ⟨W.heap.size,1,none⟩=some (.slice s.a1 t.right.length s.c1)∧w.cell? ⟨W.heap.size,2,none⟩=some (.slice s.a2 t.rl.length s.c2)∧w.cell? ⟨W.heap.size,3,none⟩=some (.slice s.a3 t.rr.length s.c3)∧w.cell? ⟨W.heap.size,4,none⟩=some (.slice s.a4 t.salts.length s.c4)) :=
  aab (fun w B=>⟨B.cell 0,B.cell 1,B.cell 2,B.cell 3,B.cell 4⟩)
 have n0:¬(n:Int)<0:=by omega
 have n1:¬64<(n:Int):=by omega
 have q1:Hid (t.left.length=n→Calls prog 95 #[.slice s.a0 t.left.length s.c0] (W.alloc (.cells (s.cl t) 39)) (Ret (.bool (nS t.left)) (W.alloc (.cells (s.cl t) 39)))):=aab (fun h=>XV s.a0 s.c0 t.left _ hT1.r0 (by omega));have q2:Hid (t.right.length=n→∀ w',Below (W.alloc (.cells (s.cl t) 39)).heap.size (W.alloc (.cells (s.cl t) 39)) w'→Calls prog 95 #[.slice s.a1 t.right.length s.c1] w' (Ret (.bool (nS t.right)) w')):=aab (fun h w' b=>XV s.a1 s.c1 t.right w' ((hT1.r1.below b).more b.size) (by omega));generalize s.cl t=T at *;go_enter func24,ntmps24;go_upto_region 1 with fail;generalize W.alloc (.cells T 39)=w1 at *;obtain ⟨d0,d1,d2,d3,d4⟩:=hBc.out w1 BT;by_cases h1:t.left.length=n
 case neg =>
  have e1:((t.left.length:Int) != (n:Int))=true:=by rw [bne_iff_ne];omega
  have hvf:=aab (hno.out (fun h=>absurd h h1));clear h1;go_wp2_with fail;go_ret;exact ⟨aI hvf.out.symm,hb⟩
 have e1:((t.left.length:Int) != (n:Int))=false:=by simp [h1]
 by_cases h2:t.right.length=n
 case neg =>
  have e2:((t.right.length:Int) != (n:Int))=true:=by rw [bne_iff_ne];omega
  have hvf:=aab (hno.out (fun _ h=>absurd h h2));clear h2 h1;go_wp2_with fail;go_ret;exact ⟨aI hvf.out.symm,hb⟩
 have e2:((t.right.length:Int) != (n:Int))=false:=by simp [h2]
 by_cases h3:t.rl.length=n
 case neg =>
  have e3:((t.rl.length:Int) != (n:Int))=true:=by rw [bne_iff_ne];omega
  have hvf:=aab (hno.out (fun _ _ h=>absurd h h3));clear h3 h2 h1;go_wp2_with fail;go_ret;exact ⟨aI hvf.out.symm,hb⟩
 have e3:((t.rl.length:Int) != (n:Int))=false:=by simp [h3]
 by_cases h4:t.rr.length=n
 case neg =>
  have e4:((t.rr.length:Int) != (n:Int))=true:=by rw [bne_iff_ne];omega
  have hvf:=aab (hno.out (fun _ _ _ h=>absurd h h4));clear h4 h3 h2 h1;go_wp2_with fail;go_ret;exact ⟨aI hvf.out.symm,hb⟩
 have e4:((t.rr.length:Int) != (n:Int))=false:=by simp [h4]
 by_cases h5:t.salts.length=n
 case neg =>
  have e5:((t.salts.length:Int) != (n:Int))=true:=by rw [bne_iff_ne];omega
  have hvf:=aab (hno.out (fun _ _ _ _ h=>absurd h h5));clear h5 h4 h3 h2 h1;go_wp2_with fail;go_ret;exact ⟨aI hvf.out.symm,hb⟩
 have e5:((t.salts.length:Int) != (n:Int))=false:=by simp [h5]
 replace q1:=q1.out h1;replace q2:=aab (q2.out h2);replace hno:=aab (fun h=>hno.out (fun _ _ _ _ _=>h))
 have hyes:Hid (nS t.left=true→nS t.right=true→v=true):=aab (fun g1 g2=>by
  rw [←hv.out];unfold Trn.fit;simp [h1,h2,h3,h4,h5,g1,g2];omega)
 clear h1 h2 h3 h4 h5;go_wp2_with fail;refine q1.mono ?_;rintro e w2 ⟨rfl,b2⟩;clear q1 d0 d1 d2 d3 d4;obtain ⟨d0,d1,d2,d3,d4⟩:=hBc.out w2 (BT.below b2 BT.lt);have q3:=q2.out w2 b2;clear q2;by_cases g1:nS t.left=true
 case neg =>
  have hvf:=aab (hno.out (fun h=>absurd h g1));rw [show nS t.left=false by simpa using g1];clear g1;go_wp2_with fail;go_ret;exact ⟨aI hvf.out.symm,ah hb b2⟩
 rw [g1]
 have hy2:Hid (nS t.right=v):=aab (by
  cases g2:nS t.right with
  | true=>exact (hyes.out g1 g2).symm
  | false=>exact (hno.out (fun _ h=>by rw [g2] at h;cases h)).symm)
 rw [hy2.out] at q3;clear g1;go_wp2_with fail;refine q3.mono ?_;rintro e w3 ⟨rfl,b3⟩;go_wp2_with fail;go_ret;exact ⟨rfl,ah (ah hb b2) b3⟩
theorem Yb (A:Option Addr) (c:Nat) (l:List (List Nat)) (d:List Nat) (W:World) (hA:Rd W W.heap.size 32 A l.length (l.flatMap ag)) (hok:∀ x∈l,dL x) (hd:dL d) (hm:d∈l) (hn:l.length≤1000000) :
  Calls prog 30 #[.slice A l.length c,.agg (ag d).toArray] W (Ret (.bool true) W):=by
 obtain ⟨D,hD⟩:∃ D,Hid ((ag d).toArray=D):=⟨_,aab rfl⟩
 have hDs:D.size=32:=by rw [←hD.out,aae,ai,hd.1]
 rw [hD.out];have BD:=Blk.new W 29 D _ rfl;have hb:=bAl (aj W) (.cells D 29);replace hm:=aab hm;go_enter func30,ntmps30;go_upto_region 1 with fail;generalize W.alloc (.cells D 29)=w1 at *;go_wp2_with fail;go_loopw [5] (fun i wr=>∃ k:Nat,k≤l.length∧i = .int .i64 k∧Below W.heap.size W wr∧Blk wr W.heap.size 29 D∧Hid (d∈l.drop k)) (fun i _=>l.length - (intOf i).toNat)
 case atStart=>exact ⟨0,by omega,rfl,hb,BD,hm⟩
 case round =>
  clear hb BD hm;obtain ⟨k,hkn,rfl,hb,BD,hm⟩:=hrel;by_cases hlt:k<l.length
  ·obtain ⟨x,hx⟩:∃ x,l[k]?=some x:=⟨_,aac hlt⟩
   have hxo:=hok x (aam hx);obtain ⟨b1,o1,rfl,l1,k1⟩:=zf (hA.below hb) hok hlt hx;have hbz:=hb.size
   have KS:Hid (∀ w',Below wr.heap.size wr w'→((Instr.loadAt 29 (.pointer (some ⟨b1,o1+k*32,none⟩))).run prog w' = .ok (.agg (ag x).toArray) w'∧(Instr.loadAt 29 (.pointer (some ⟨W.heap.size,0,none⟩))).run prog w' = .ok (.agg D) w')) :=
    aab (fun w' h=>⟨fF (fun j u hj=>(h.cell (p:=⟨b1,o1+k*32+j,none⟩) (by show b1<_;omega)).trans (k1 j u hj)) hxo.1,bg (BD.below h BD.lt) underlying29 rfl (by rw [hDs];exact aW)⟩)
   have hdr:Hid (d∈x::l.drop (k+1)):=aab (by
    obtain ⟨h1,h2⟩:=aag.1 hx
    have:=hm.out
    rwa [List.drop_eq_getElem_cons h1,h2] at this)
   have m1:(0:Int)≤(k:Int):=(by omega);have m2:(k:Int)<(l.length:Int):=(by omega);have hq:=fun w=>UH x d hxo.1 hd.1 w;rw [hD.out] at hq;clear k1 hm hx;by_cases hxd:x=d
   ·rw [decide_eq_true hxd] at hq
    clear hxd hdr;generalize (ag x).toArray=X at *;go_upto_region 4 with fail;refine fA (g:=0) KS [(0,1),(1,1),(2,1),(3,2),(4,2),(5,0)] ?_;simp only [bf,aap,aar];refine ae ?_;refine ae ?_;refine ae ?_;refine az (v:=?vq1) (hv:=?hq1) ?_;case hq1=>(intro w hSw;(first | refine (af rfl rfl hSw).trans ?_ | refine (af rfl rfl hSw.1).trans ?_ | refine (af rfl rfl hSw.2.1).trans ?_ | refine (af rfl rfl hSw.2.2.1).trans ?_ | refine (af rfl rfl hSw.2).trans ?_ | refine (af rfl rfl hSw.2.2).trans ?_);with_reducible rfl)
    refine az (v:=?vq2) (hv:=?hq2) ?_;case hq2=>(intro w hSw;(first | refine (af rfl rfl hSw).trans ?_ | refine (af rfl rfl hSw.1).trans ?_ | refine (af rfl rfl hSw.2.1).trans ?_ | refine (af rfl rfl hSw.2.2.1).trans ?_ | refine (af rfl rfl hSw.2).trans ?_ | refine (af rfl rfl hSw.2.2).trans ?_);with_reducible rfl)
    refine bW (fun K hK=>?_);go_simp;refine aH hK KS ?_;clear hK K;refine jk ?_;refine NoPanic.normal ?_;go_wp2_with fail;go_ret;exact ⟨rfl,bDr hb⟩
   ·rw [decide_eq_false hxd] at hq
    have hm2:Hid (d∈l.drop (k+1)):=aab (by
     rcases aaq.1 hdr.out with h | h
     ·exact absurd h.symm hxd
     ·exact h)
    clear hxd hdr;generalize (ag x).toArray=X at *;go_upto_region 4 with fail;refine fA (g:=0) KS [(0,1),(1,1),(2,1),(3,2),(4,2),(5,0)] ?_;simp only [bf,aap,aar];refine ae ?_;refine ae ?_;refine ae ?_;refine az (v:=?vq3) (hv:=?hq3) ?_;case hq3=>(intro w hSw;(first | refine (af rfl rfl hSw).trans ?_ | refine (af rfl rfl hSw.1).trans ?_ | refine (af rfl rfl hSw.2.1).trans ?_ | refine (af rfl rfl hSw.2.2.1).trans ?_ | refine (af rfl rfl hSw.2).trans ?_ | refine (af rfl rfl hSw.2.2).trans ?_);with_reducible rfl)
    refine az (v:=?vq4) (hv:=?hq4) ?_;case hq4=>(intro w hSw;(first | refine (af rfl rfl hSw).trans ?_ | refine (af rfl rfl hSw.1).trans ?_ | refine (af rfl rfl hSw.2.1).trans ?_ | refine (af rfl rfl hSw.2.2.1).trans ?_ | refine (af rfl rfl hSw.2).trans ?_ | refine (af rfl rfl hSw.2.2).trans ?_);with_reducible rfl)
    refine bW (fun K hK=>?_);go_simp;refine aH hK KS ?_;clear hK K;refine jk ?_;refine NoPanic.normal ?_;go_wp2_with fail;exact ⟨⟨k+1,by omega,by go_num,bDr hb,BD,hm2⟩,by simp [intOf];omega⟩
  ·exfalso
   have:=hm.out
   rw [List.drop_of_length_le (by omega)] at this;cases this
theorem XY (x:Ltr) (hx:x.ok) (W:World) :
  Calls prog 31 #[x.agg] W (Ret (dig (kD x)) W):=by
 obtain ⟨X,hX⟩:∃ X,Hid (x.agg = .agg X):=⟨_,aab rfl⟩
 have hXs:X.size=6:=by
  have h:=hX.out;unfold Ltr.agg at h;injection h with h
  rw [←h];rfl
 rw [hX.out];have q:=fun w=>X5 x (SA hx) w;rw [hX.out] at q;replace q:=aab q;have hb:=bAl (bAl (aj W) (.cells X 63)) (.cells (ag (aF 32)).toArray 29);have BX:=(Blk.new W 63 X _ rfl).alloc (.cells (ag (aF 32)).toArray 29);have BD:=Blk.new (W.alloc (.cells X 63)) 29 (ag (aF 32)).toArray (W.heap.size+1) (by simp);go_enter func31,ntmps31;go_upto_region 1 with fail;change Code.wp _ _ _ _ ((W.alloc (.cells X 63)).alloc (.cells (ag (aF 32)).toArray 29));generalize (W.alloc (.cells X 63)).alloc (.cells (ag (aF 32)).toArray 29)=w1 at *;have LX:=bg BX underlying63 rfl (by rw [hXs];kernel_rfl);apply wp_region_lit;refine aP (by rfl) (by rfl) (by rfl) LX ?_;simp only [Act.put];go_wp2_with fail;refine (q.out _).mono ?_;rintro e w2 ⟨v2,rfl,b2,hS⟩;obtain ⟨A2,c2,rfl,R2,-,-,n2⟩:=Sl.of_own hS;have hb2:=ah hb b2;have BD2:=BD.below b2 BD.lt;have q2:Calls prog 108 #[.string ⟨#[115,101,101,110]⟩,.slice A2 x.txt.length c2] w2 (Ret (dig (dP (sb Xl) x.txt)) w2):=LW Xl A2 x.txt.length c2 x.txt w2 R2 n2 (iI _) (by decide) (by have:=jZ (SA hx) (show 6≤1000 by omega);have e:x.txt=bZ x.its:=rfl;rw [e];omega);clear q hS BX BD LX;go_wp2_with fail;refine q2.mono ?_;rintro e w3 ⟨rfl,b3⟩;have hb3:=ah hb2 b3;have BD3:=BD2.below b3 BD2.lt;have hl:(dP (sb Xl) x.txt).length=32:=(NH x).1;have hr:Hid (kD x=dP (sb Xl) x.txt):=aab rfl;rw [hr.out];generalize dP (sb Xl) x.txt=T at *;clear q2 hb2 BD2;dsimp only;go_step;refine wpList_store_row rfl 29 (.tmp 2) (.tmp 5) rfl (W.heap.size+1) (ag T).toArray rfl rfl 29 _ BD3 (by rw [aae,ai,hl];exact aW) (by rw [aae,aae,ai,ai,hl];rfl) (fK _) ?_
 have hb9:=below_setRow hb3 (Nat.le_succ _) (ag T).toArray;have BD9:Blk (w3.setRow (W.heap.size+1) (ag T).toArray) (W.heap.size+1) 29 (ag T).toArray:=setRow_heap w3 (W.heap.size+1) _ _ 29 _ BD3;go_wp2_with fail;exact bodyPost_ret (v:=dig T) (results_cell_row rfl _ _ (W.heap.size+1) 29 _ (0,0) _ rfl BD9 bQ rfl (by rw [aae,ai,hl];exact aW)) rfl ⟨by rw [hr.out],hb9⟩
theorem Yc (w:World) (e:TypeId) (sz base:Nat) (hb:base≤w.heap.size):(w.alloc (.cells #[] e)).ownsRow base e sz (.slice (some ⟨w.heap.size,0,none⟩) 0 0) 0 [] :=
 ⟨by simp,.inr ⟨w.heap.size,0,#[],rfl,hb,Blk.new w e #[] _ rfl,aad _,by unfold maxLen;omega,by simp,by simp⟩⟩
theorem XL (l:List Ltr):∀ u∈l.flatMap Ltr.cl,u.oneCell'=true:=fun u hu=>by
 obtain ⟨x,_,hx⟩:=List.mem_flatMap.1 hu;unfold Ltr.cl at hx;simp only [aaq,aaw,or_false] at hx;rcases hx with rfl | rfl | rfl | rfl | rfl | rfl <;> rfl
section
variable {A1 A2:Option Addr} {c1 c2:Nat} {bare proofs:List Ltr} {s:MS} {m:Mx} {h:Hd}
end
end
section
open Go.RowKit
theorem Yh (a0 n0:Nat) (W:World) (ha:a0<2147483579) (hn:n0<2147483648) :
  Calls prog 213 #[.int .i64 (a0:Nat),.int .i64 (n0:Nat)] W (Same (.int .i64 (eu a0 n0:Nat)) W):=by
 go_enter func213,ntmps213;go_wp2
 go_loop [0,1,5] (fun va vn vc=>∃ a n c:Nat,va = .int .i64 (a:Nat)∧vn = .int .i64 (n:Nat)∧vc = .int .i64 (c:Nat)∧a<2147483579∧n<2147483648∧c<2147483579∧Hid ((c*a ^ n) % Pn=eu a0 n0)) (fun _ vn _=>(intOf vn).toNat)
 case atStart=>exact ⟨a0,n0,1,rfl,rfl,rfl,ha,hn,by omega,by show _=_;unfold eu;rw [Nat.one_mul]⟩
 case round =>
  obtain ⟨a,n,c,rfl,rfl,rfl,ha,hn,hc,hr⟩:=hrel;by_cases h0:0<n
  ·have hm1:=G7 ha ha
   have hm2:=G7 hc ha;have hs:=yS c a n;rw [hr.out] at hs;have e1:((a:Int)*a % 2147483579)=((a*a % 2147483579:Nat):Int):=(by simp);have e2:(n:Int) / 2=((n / 2:Nat):Int):=(by simp);have e3:((c:Int)*a % 2147483579)=((c*a % 2147483579:Nat):Int):=(by simp);have E1:=aab e1;have E2:=aab e2;have E3:=aab e3;have M1:a*a % 2147483579<2147483579:=aaC _ (by decide);have M2:c*a % 2147483579<2147483579:=aaC _ (by decide);by_cases hb:n % 2=1
   ·rw [if_pos hb] at hs
    have Hs:=aab hs.symm;have t:((n:Int) % 2==1)=true:=(by rw [beq_iff_eq];omega);clear e1 e2 e3 hs hb hr;go_wp2
    rw [E1.out,E2.out,E3.out];exact ⟨⟨_,_,_,rfl,rfl,rfl,M1,by omega,M2,Hs⟩,by simp [intOf];omega⟩
   ·rw [if_neg hb] at hs
    have Hs:=aab hs.symm;have t:((n:Int) % 2==1)=false:=(by rw [beq_eq_false_iff_ne];omega);clear e1 e2 e3 hs hb hr;go_wp2
    rw [E1.out,E2.out];exact ⟨⟨_,_,_,rfl,rfl,rfl,M1,by omega,hc,Hs⟩,by simp [intOf];omega⟩
  ·obtain rfl:n=0:=by omega
   have hv:Hid (c=eu a0 n0):=by
    show _=_
    have:=hr.out
    rw [Nat.pow_zero,aaA,aaR (show c<Pn from hc)] at this;exact this
   go_wp2
   go_ret;exact ⟨by rw [hv.out];rfl,rfl⟩
theorem pg (x:Int) (W:World):Calls prog 151 #[.int .i64 x] W (Same (.bool (aA x)) W):=by
 by_cases h1:1≤x
 ·by_cases h2 : x < 2147483579
  ·obtain ⟨n,rfl⟩:=abB (show 0≤x by omega)
   have hQ:((Qn:Nat):Int)=1073741789:=rfl;have q:=Yh n Qn W (by omega) (by decide);rw [hQ] at q
   have hv:Hid (aA (n:Int)=(((eu n Qn:Nat):Int)==1)):=by
    show _=_;unfold aA xW;rw [decide_eq_true h1,decide_eq_true h2,aba,aaM,aaM];generalize eu n Qn=m;rw [abb,beq_iff_eq,beq_iff_eq];omega
   generalize eu n Qn=m at *;clear hQ;go_enter func151,ntmps151;go_wp2_with fail;refine q.mono ?_;rintro e w' ⟨rfl,rfl⟩;go_wp2_with fail;go_ret;exact ⟨aI hv.out.symm,rfl⟩
  ·have hv:=aab (GU (x:=x) (by omega))
   go_enter func151,ntmps151;go_wp2_with fail;go_ret;exact ⟨aI hv.out.symm,rfl⟩
 ·have hv:=aab (JG (x:=x) (by omega))
  go_enter func151,ntmps151;go_wp2_with fail;go_ret;exact ⟨aI hv.out.symm,rfl⟩
theorem Yi (x:Ltr) (W:World):Calls prog 92 #[.agg #[.int .i64 x.a0,.int .i64 x.b0,.int .i64 x.a1,.int .i64 x.b1,.int .i64 x.a2,.int .i64 x.b2]] W (Ret (.int .i64 x.err) W):=by
 have B0:Blk (W.alloc (.cells x.cells 63)) W.heap.size 63 x.cells:=Blk.new W _ _ _ rfl;have hb:=bAl (aj W) (.cells x.cells 63);obtain ⟨v,hv⟩:∃ v,v=x.err:=⟨_,rfl⟩
 rw [←hv];go_enter func92,ntmps92;go_upto_region 1 with fail;change Code.wp _ _ _ _ (W.alloc (.cells x.cells 63));generalize W.alloc (.cells x.cells 63)=w1 at *;obtain ⟨k0,k1,k2,k3,k4,k5⟩:=Blk.six (v0 := .int .i64 x.a0) (v1 := .int .i64 x.b0) (v2 := .int .i64 x.a1) (v3 := .int .i64 x.b1) (v4 := .int .i64 x.a2) (v5 := .int .i64 x.b2) B0;have Hv:=aab hv;clear hv B0;go_wp2_with fail;go_loop [3] (fun i=>∃ m:Int,i = .int .i64 m∧(m=0∧Hid True∨m=1∧Hid (x.goodAt 0=true)∨m=2∧Hid (x.goodAt 0=true∧x.goodAt 1=true)∨m=3∧Hid (x.good=true))) (fun i=>3 - (intOf i).toNat)
 case atStart=>exact ⟨0,rfl,.inl ⟨rfl,aab trivial⟩⟩
 case round =>
  obtain ⟨m,rfl,(⟨rfl,hq⟩ | ⟨rfl,hq⟩ | ⟨rfl,hq⟩ | ⟨rfl,hq⟩)⟩:=hrel
  ·have q1:=pg x.a0 w1
   have q2:=pg x.b0 w1;have hga:x.goodAt 0=(aA x.a0&&aA x.b0):=rfl;cases h1:aA x.a0
   ·have hbad:Hid (v=100):=by show _=_;rw [Hv.out];unfold Ltr.err;rw [x.bad_of 0 (by rw [hga,h1];rfl)];rfl
    rw [h1] at q1;clear h1 q2 hga;go_wp2_with fail;refine q1.mono ?_;rintro e w' ⟨rfl,rfl⟩;go_wp2_with fail;go_ret;exact ⟨eX hbad.out.symm,hb⟩
   ·cases h2:aA x.b0
    ·have hbad:Hid (v=100):=by show _=_;rw [Hv.out];unfold Ltr.err;rw [x.bad_of 0 (by rw [hga,h1,h2];rfl)];rfl
     rw [h1] at q1;rw [h2] at q2;clear h1 h2 hga;go_wp2_with fail;refine q1.mono ?_;rintro e w' ⟨rfl,rfl⟩;go_wp2_with fail;refine q2.mono ?_;rintro e w' ⟨rfl,rfl⟩;go_wp2_with fail;go_ret;exact ⟨eX hbad.out.symm,hb⟩
    ·have hg:x.goodAt 0=true:=by rw [hga,h1,h2];rfl
     have hn:Hid (x.goodAt 0=true):=hg;rw [h1] at q1;rw [h2] at q2;clear h1 h2 hga hg;go_wp2_with fail;refine q1.mono ?_;rintro e w' ⟨rfl,rfl⟩;go_wp2_with fail;refine q2.mono ?_;rintro e w' ⟨rfl,rfl⟩;go_wp2_with fail;exact ⟨⟨1,rfl,.inr (.inl ⟨rfl,hn⟩)⟩,by simp [intOf]⟩
  ·have q1:=pg x.a1 w1
   have q2:=pg x.b1 w1;have hga:x.goodAt 1=(aA x.a1&&aA x.b1):=rfl;cases h1:aA x.a1
   ·have hbad:Hid (v=100):=by show _=_;rw [Hv.out];unfold Ltr.err;rw [x.bad_of 1 (by rw [hga,h1];rfl)];rfl
    rw [h1] at q1;clear h1 q2 hga;go_wp2_with fail;refine q1.mono ?_;rintro e w' ⟨rfl,rfl⟩;go_wp2_with fail;go_ret;exact ⟨eX hbad.out.symm,hb⟩
   ·cases h2:aA x.b1
    ·have hbad:Hid (v=100):=by show _=_;rw [Hv.out];unfold Ltr.err;rw [x.bad_of 1 (by rw [hga,h1,h2];rfl)];rfl
     rw [h1] at q1;rw [h2] at q2;clear h1 h2 hga;go_wp2_with fail;refine q1.mono ?_;rintro e w' ⟨rfl,rfl⟩;go_wp2_with fail;refine q2.mono ?_;rintro e w' ⟨rfl,rfl⟩;go_wp2_with fail;go_ret;exact ⟨eX hbad.out.symm,hb⟩
    ·have hg:x.goodAt 1=true:=by rw [hga,h1,h2];rfl
     have hn:Hid (x.goodAt 0=true∧x.goodAt 1=true):=⟨hq.out,hg⟩
     rw [h1] at q1;rw [h2] at q2;clear h1 h2 hga hg;go_wp2_with fail;refine q1.mono ?_;rintro e w' ⟨rfl,rfl⟩;go_wp2_with fail;refine q2.mono ?_;rintro e w' ⟨rfl,rfl⟩;go_wp2_with fail;exact ⟨⟨2,rfl,.inr (.inr (.inl ⟨rfl,hn⟩))⟩,by simp [intOf]⟩
  ·have q1:=pg x.a2 w1
   have q2:=pg x.b2 w1;have hga:x.goodAt 2=(aA x.a2&&aA x.b2):=rfl;cases h1:aA x.a2
   ·have hbad:Hid (v=100):=by show _=_;rw [Hv.out];unfold Ltr.err;rw [x.bad_of 2 (by rw [hga,h1];rfl)];rfl
    rw [h1] at q1;clear h1 q2 hga;go_wp2_with fail;refine q1.mono ?_;rintro e w' ⟨rfl,rfl⟩;go_wp2_with fail;go_ret;exact ⟨eX hbad.out.symm,hb⟩
   ·cases h2:aA x.b2
    ·have hbad:Hid (v=100):=by show _=_;rw [Hv.out];unfold Ltr.err;rw [x.bad_of 2 (by rw [hga,h1,h2];rfl)];rfl
     rw [h1] at q1;rw [h2] at q2;clear h1 h2 hga;go_wp2_with fail;refine q1.mono ?_;rintro e w' ⟨rfl,rfl⟩;go_wp2_with fail;refine q2.mono ?_;rintro e w' ⟨rfl,rfl⟩;go_wp2_with fail;go_ret;exact ⟨eX hbad.out.symm,hb⟩
    ·have hg:x.goodAt 2=true:=by rw [hga,h1,h2];rfl
     have hn:Hid (x.good=true):=(by show _=_;rw [x.good_eq,hq.out.1,hq.out.2,hg];rfl);rw [h1] at q1;rw [h2] at q2;clear h1 h2 hga hg;go_wp2_with fail;refine q1.mono ?_;rintro e w' ⟨rfl,rfl⟩;go_wp2_with fail;refine q2.mono ?_;rintro e w' ⟨rfl,rfl⟩;go_wp2_with fail;exact ⟨⟨3,rfl,.inr (.inr (.inr ⟨rfl,hn⟩))⟩,by simp [intOf]⟩
  ·have hx:Hid (v=0):=by show _=_;rw [Hv.out];unfold Ltr.err;rw [hq.out];rfl
   go_wp2_with fail;go_ret;exact ⟨eX hx.out.symm,hb⟩
theorem X7 (A:Option Addr) (n c:Nat) (l:List Ltr) (W:World) (hA:Rd W W.heap.size 6 A n (l.flatMap Ltr.cl)) (hn:n≤9223372036854775807) :
  Calls prog 22 #[.slice A n c] W (Ret (.bool (l.all Ltr.good)) W):=by
 obtain rfl:l.length=n:=iR hA;obtain ⟨v,hv⟩:∃ v,v=l.all Ltr.good:=⟨_,rfl⟩
 rw [←hv];have Hv:=aab hv;clear hv;go_enter func22,ntmps22;go_wp2_with fail;go_loopw [3] (fun i wr=>∃ k:Nat,k≤l.length∧i = .int .i64 k∧Below W.heap.size W wr∧Hid (∀ y∈l.take k,y.good=true)) (fun i _=>l.length - (intOf i).toNat)
 case atStart=>exact ⟨0,aao _,rfl,aj W,aab (by simp)⟩
 case round =>
  obtain ⟨k,hkn,rfl,hb,hp⟩:=hrel;by_cases hlt:k<l.length
  ·obtain ⟨x,hx⟩:∃ x,Hid (l[k]?=some x):=⟨_,aab (aac hlt)⟩
   obtain ⟨b,off,hAb,hbb,o0,o1,o2,o3,o4,o5⟩:=jS (hA.below hb) hlt hx.out;subst hAb;have q:=Yi x wr;have i0:(0:Int)≤(k:Int):=(by omega);have i1:(k:Int)<(l.length:Int):=(by omega);by_cases hg:x.good=true
   ·have he:x.err=0:=if_pos hg
    rw [he] at q
    have hp':Hid (∀ z∈l.take (k+1),z.good=true):=by
     intro z hz;obtain ⟨hk,rfl⟩:=aag.1 hx.out;rw [aaB hk] at hz;rcases aaL.1 hz with hz | hz
     ·exact hp.out z hz
     ·obtain rfl:z=l[k]:=by simpa using hz
      exact hg
    clear he hg;go_wp2_with fail;refine q.mono ?_;rintro e w' ⟨rfl,b'⟩;go_wp2_with fail;exact ⟨⟨k+1,by omega,by go_num,ah hb b',hp'⟩,by simp [intOf];omega⟩
   ·have he:x.err=100:=if_neg hg
    rw [he] at q
    have hx0:Hid (v=false):=by
     show _=_;rw [Hv.out];exact abn.2 ⟨x,aam hx.out,hg⟩
    clear he hg;go_wp2_with fail;refine q.mono ?_;rintro e w' ⟨rfl,b'⟩;go_wp2_with fail;go_ret;exact ⟨aI hx0.out.symm,ah hb b'⟩
  ·have hx0:Hid (v=true):=by
    show _=_;rw [Hv.out];exact aau.2 (by have:=hp.out;rw [aaH (by omega)] at this;exact this)
   go_wp2_with fail;go_ret;exact ⟨aI hx0.out.symm,hb⟩
def nAt (n0 n1 n2:Int) (k:Fin 3):Int:=match k with | 0=>n0 | 1=>n1 | 2=>n2
def Yz (y:Ltr) (k:Fin 3) (a b:Int):Ltr:=match k with | 0=>⟨a,b,y.a1,y.b1,y.a2,y.b2⟩ | 1=>⟨y.a0,y.b0,a,b,y.a2,y.b2⟩ | 2=>⟨y.a0,y.b0,y.a1,y.b1,a,b⟩
end
section
open Go Go.RowKit
theorem X8 {w:World} {B sz n:Nat} {A:Option Addr} {xs:List Value} {p:Addr} {q:Value} (h:Rd w B sz A n xs) (hp:w.cell? p=some q) (hx:∀ v∈xs,v≠q) (u:Value):Rd (w.setCell p u) B sz A n xs :=
 ⟨h.1,fun hn=>by
  obtain ⟨b,off,e,hb,hc⟩:=h.2 hn
  refine ⟨b,off,e,hb,fun j v hj=>(World.cell?_setCell_other _ _ _ _ (fun e2=>?_)).trans (hc j v hj)⟩
  have h1:=hc j v hj
  rw [←e2,hp] at h1
  injection h1 with h1
  exact hx v (aam hj) h1.symm⟩
theorem Yt {l:List Nat} {z:Int} : ∀ v∈ag l,v ≠ .int .i64 z:=by
 intro v hv e;unfold ag at hv;obtain ⟨x,-,rfl⟩:=aaK.1 hv;cases e
theorem Yl {l:List (List Nat)} {z:Int} : ∀ v∈l.flatMap ag,v ≠ .int .i64 z:=by
 intro v hv;obtain ⟨x,-,hx⟩:=List.mem_flatMap.1 hv;exact Yt v hx
theorem LksAt.setH {w:World} {B g i:Nat} {A:Option Addr} {l:List Lnk} {vs:List Value} {T:TypeId} {G:Array Value} {z:Int} (h:LksAt w B A l vs) (BG:Blk w g T G) (hG:∀ v∈G.toList,∃ k z,v = .int k z)
  (hp:w.cell? ⟨g,i,none⟩=some (.int .i64 z)) (u:Value):LksAt (w.setCell ⟨g,i,none⟩ u) B A l vs:=by
 refine ⟨⟨h.1.1,fun hn=>?_⟩,h.2.1,fun k x hx=>by obtain ⟨Ad,cd,e,r⟩:=h.2.2.1 k x hx;exact ⟨Ad,cd,e,X8 r hp Yt u⟩,h.2.2.2⟩;obtain ⟨b,off,Ad,cd,rfl,hb,hxo,-,hr⟩:=h.at_ (aac hn);obtain ⟨-,-,-,k34,-⟩:=Yf (v := .slice Ad (l[0]).data.length cd) hxo
 have hne:b≠g:=fun e=>by
  subst e;have h1:=hr 34 _ (by rw [←aaG];exact k34);rw [BG.cell] at h1;obtain ⟨k,z,e⟩:=hG _ (by rw [Array.mem_toList_iff];exact Array.mem_of_getElem? h1);cases e
 obtain ⟨b',off',e,hb',hc⟩:=h.1.2 hn;injection e with e
 injection e with e1 e2
 subst e1;subst e2;exact ⟨b,off,rfl,hb,fun j v hj=>(World.cell?_setCell_other _ _ _ _ (fun e=>by injection e with e;exact hne e.symm)).trans (hc j v hj)⟩
theorem Ye (h:Hd):∀ v∈h.cl.toArray.toList,∃ k z,v = .int k z:=by
 intro v hv;unfold Hd.cl ag at hv;simp at hv;rcases hv with h | h | h | h | h | h | h | ⟨x,-,h⟩ | h | h | h <;> first | exact ⟨_,_,h⟩ | exact ⟨_,_,h.symm⟩
theorem Yp (h:Hd) (v:Int):h.cl.toArray.setIfInBounds 4 (.int .i64 v)=({ h with from_:=v } : Hd).cl.toArray:=by
 rw [aaf];rfl
theorem bV {P:Program} {ops:Array Oper} {o:Oper} {a:Act} {w:World} {K:Act→World→Prop} {Q:Exit→Act→World→Prop} {E:Prop} (s x:Operand) (t:TypeId)
  (base:Nat) (e:TypeId) (z:Value) (size bytes:Nat) (v:Value) (n:Nat) (xs:List Value) (A:Option Addr) (m c B:Nat) (news:List Value) (hgd:o.guard=none)
  (ho:o.op = .call { callee := .builtin .append,args:=#[s,x],argTypes:=#[t,t] })
  (ht:P.underlying t=some (.slice e)) (hinfo:(P.info? e).map (fun i=>(i.zero,i.size,i.bytes))=some (some z,size,bytes)) (hzs:z.cells.size=size) (hsz:0<size)
  (hs:a.eval s=v) (hown:w.ownsRow base e size v n xs) (hx:a.eval x = .slice A m c) (hr:Rd w B size A m news) (hnil:A=none→m=0∧c=0) (h1:∀ u∈news,u.oneCell'=true)
  (h63:n+m≤maxLen) (hbytes:(n+m)*bytes≤140737488355328) (hbase:base≤w.heap.size)
  (h:∀ v' w',w'.ownsRow base e size v' (n+m) (xs++news)→Grew w w' v v'→K (a.put o.dst v') w') :
  if Region.wanted o (yielded ops a.tmps)=true then Oper.wp P o a w K Q else E:=by
 obtain ⟨i0,hi,hz0,hz1,hz2⟩:=info_parts hinfo;rw [if_pos (by simp [Region.wanted,hgd])];cases A with
 | none =>
  obtain ⟨rfl,rfl⟩:=hnil rfl;have hn0:news=[]:=abr (by rw [hr.1];simp);subst hn0;have hrun:=run_append_owned_none (P:=P) (w:=w) base t o.type e i0 size ht hi v n xs hown;unfold Oper.wp execOp;simp only [ho,resolve,invoke,builtin,Sem.run_bind,Sem.run_pure,Result.andThen_ok,List.map_toArray,aat,aak,hs,hx,hrun];exact h v w (by simpa using hown) (Grew.refl _ _)
 | some ad =>
  obtain ⟨v',w',hrun,h2,h3,h4,h5⟩:=run_append_own_at (P:=P) w base t o.type e i0 z size bytes ht hi hz0 hz1 hz2 hzs hsz v n xs hown ad m c news hr.1 (by
   intro j u hj;rcases aa7 m with h0 | h0
   ·subst h0
    have hn0:news=[]:=abr (by rw [hr.1];simp);subst hn0;simp at hj
   ·obtain ⟨b,off,he,_,hc⟩:=hr.2 h0
    injection he with he
    subst he;rw [dX];exact hc j u hj) h1 h63 hbytes hbase
  unfold Oper.wp execOp;simp only [ho,resolve,invoke,builtin,Sem.run_bind,Sem.run_pure,Result.andThen_ok,List.map_toArray,aat,aak,hs,hx,hrun];exact h v' w' h2 ⟨h3,h5.imp id fun e=>⟨_,e,aad _⟩⟩
theorem Yq (X:Array Value) (o:Ofc) (rest:Int) (h g:Hd) (A2:Option Addr) (c2:Nat) (inn:List Ltr) (A3:Option Addr) (c3:Nat) (more:List Ltr) (s:TS) (t:Trn) (r:TS) (u:Trn) (at_:Nat) (W:World) (hG:ShaG W) (hO:Xz W X.toList o) (_irest:inI rest) (ho:h.ok) (hgo:g.ok)
  (hI:WW W A2 inn) (hM:WW W A3 more∧(A3=none→more.length=0∧c3=0)) (hT:TurnAt W W.heap.size s t) (hU:TurnAt W W.heap.size r u) (hat:at_<256) :
  Calls prog 6 #[.agg X,.int .i64 rest,.agg h.cl.toArray,.agg g.cl.toArray,.slice A2 inn.length c2,.slice A3 more.length c3,.agg (s.cl t),.agg (r.cl u),.int .u8 (at_:Nat)] W (Ret (.bool true) W):=by
 obtain ⟨A,c,vs,Au,cu,hX,hA,hcap,hnilA,hUs,hok,hnilU,ino,isec⟩:=hO;obtain rfl:X=#[.int .i64 o.no,.int .i64 o.secret,.slice A o.chain.length c,.slice Au o.used.length cu]:=Array.toList_inj.1 hX;clear hX isec;obtain ⟨hI0,hio,hin⟩:=hI;obtain ⟨⟨hM0,hmo,hmn⟩,hnilM⟩:=hM;have hcl:Hid (h.cl.toArray.size=42):=aab (by simpa using Hd.cl_length ho);have hone:Hid (∀ v∈h.cl.toArray.toList,v.oneCell'=true):=aab (by simpa using Hd.one h);obtain ⟨hC,hhC⟩:∃ hC,Hid (h.cl.toArray=hC):=⟨_,aab rfl⟩
 rw [hhC.out] at hcl hone ⊢;obtain ⟨gC,hgC⟩:∃ gC,Hid (g.cl.toArray=gC):=⟨_,aab rfl⟩
 rw [hgC.out]
 have hOc:Hid (∀ w (C:Array Value),C=#[.int .i64 o.no,.int .i64 o.secret,.slice A o.chain.length c,.slice Au o.used.length cu]→Blk w W.heap.size 25 C→w.cell? ⟨W.heap.size,0,none⟩=some (.int .i64 o.no)∧w.cell? ⟨W.heap.size,1,none⟩=some (.int .i64 o.secret)∧w.cell? ⟨W.heap.size,2,none⟩=some (.slice A o.chain.length c)∧w.cell? ⟨W.heap.size,3,none⟩=some (.slice Au o.used.length cu)) :=
  aab (fun w C e B=>by subst e;exact ⟨B.cell 0,B.cell 1,B.cell 2,B.cell 3⟩)
 have hTc:Hid (∀ w g (x:TS) (y:Trn) C,x.cl y=C→Blk w g 39 C→w.cell? ⟨g,0,none⟩=some (.slice x.a0 y.left.length x.c0)∧w.cell? ⟨g,1,none⟩=some (.slice x.a1 y.right.length x.c1)∧w.cell? ⟨g,2,none⟩=some (.slice x.a2 y.rl.length x.c2)∧w.cell? ⟨g,3,none⟩=some (.slice x.a3 y.rr.length x.c3)∧w.cell? ⟨g,4,none⟩=some (.slice x.a4 y.salts.length x.c4)) :=
  aab (fun w g x y C e B=>by subst e;exact ⟨B.cell 0,B.cell 1,B.cell 2,B.cell 3,B.cell 4⟩)
 obtain ⟨OC,hOC⟩:∃ C:Array Value,Hid (C=#[.int .i64 o.no,.int .i64 o.secret,.slice A o.chain.length c,.slice Au o.used.length cu]):=⟨_,aab rfl⟩
 have hTs:s.cl t=#[.slice s.a0 t.left.length s.c0,.slice s.a1 t.right.length s.c1,.slice s.a2 t.rl.length s.c2,.slice s.a3 t.rr.length s.c3,.slice s.a4 t.salts.length s.c4]:=rfl;have hUr:r.cl u=#[.slice r.a0 u.left.length r.c0,.slice r.a1 u.right.length r.c1,.slice r.a2 u.rl.length r.c2,.slice r.a3 u.rr.length r.c3,.slice r.a4 u.salts.length r.c4]:=rfl;obtain ⟨TC,hTC⟩:∃ C,Hid (s.cl t=C):=⟨_,aab rfl⟩
 obtain ⟨UC,hUC⟩:∃ C,Hid (r.cl u=C):=⟨_,aab rfl⟩
 rw [←hOC.out,hTC.out,hUC.out];have hb:=bAl (bAl (bAl (bAl (bAl (aj W) (.cells OC 25)) (.cells hC 33)) (.cells gC 33)) (.cells TC 39)) (.cells UC 39);have BO:=((((Blk.new W 25 OC _ rfl).alloc (.cells hC 33)).alloc (.cells gC 33)).alloc (.cells TC 39)).alloc (.cells UC 39);have BH:=(((Blk.new (W.alloc (.cells OC 25)) 33 hC (W.heap.size+1) (by simp)).alloc (.cells gC 33)).alloc (.cells TC 39)).alloc (.cells UC 39);have BG:=((Blk.new ((W.alloc (.cells OC 25)).alloc (.cells hC 33)) 33 gC (W.heap.size+1+1) (by simp)).alloc (.cells TC 39)).alloc (.cells UC 39);have BT:=(Blk.new (((W.alloc (.cells OC 25)).alloc (.cells hC 33)).alloc (.cells gC 33)) 39 TC (W.heap.size+1+1+1) (by simp)).alloc (.cells UC 39);have BU:=Blk.new ((((W.alloc (.cells OC 25)).alloc (.cells hC 33)).alloc (.cells gC 33)).alloc (.cells TC 39)) 39 UC (W.heap.size+1+1+1+1) (by simp);go_enter func6,ntmps6;go_upto_region 1 with fail;generalize ((((W.alloc (.cells OC 25)).alloc (.cells hC 33)).alloc (.cells gC 33)).alloc (.cells TC 39)).alloc (.cells UC 39)=w1 at *;have q0:=Vw w1 (hG.below hb);go_wp2_with fail;refine q0.mono ?_;rintro e w2 ⟨rfl,b2⟩;clear q0;replace BO:=BO.below b2 BO.lt;replace BH:=BH.below b2 BH.lt;replace BG:=BG.below b2 BG.lt;replace BT:=BT.below b2 BT.lt;replace BU:=BU.below b2 BU.lt;replace hb:=ah hb b2;clear b2 w1;go_upto_region 3 with fail;obtain ⟨c0,c1,c2',c3'⟩:=hOc.out _ _ hOC.out BO;obtain ⟨d0,d1,d2,d3,d4⟩:=hTc.out _ _ s t _ hTC.out BT;have q1:=PX o A Au A2 c cu inn.length c2 vs s t w2 ((hA.below hb).more hb.size)
 rw [hTs] at q1;go_wp2_with fail;refine q1.mono ?_;rintro e w3 ⟨rfl,b3⟩;clear q1 c0 c1 c2' c3' d0 d1 d2 d3 d4;replace BO:=BO.below b3 BO.lt;replace BH:=BH.below b3 BH.lt;replace BG:=BG.below b3 BG.lt;replace BT:=BT.below b3 BT.lt;replace BU:=BU.below b3 BU.lt;replace hb:=ah hb b3;clear b3;by_cases hf:Jd o inn.length t=true
 case neg =>
  rw [show Jd o inn.length t=false by simpa using hf];go_wp2_with fail;go_ret;exact ⟨rfl,hb⟩
 rw [hf];obtain ⟨f1,f2,f3⟩:=Qd hf;clear hf;obtain ⟨c0,c1,c2',c3'⟩:=hOc.out _ _ hOC.out BO;obtain ⟨d0,d1,d2,d3,d4⟩:=hTc.out _ _ r u _ hUC.out BU;have q1:=PX o A Au A3 c cu more.length c3 vs r u w3 ((hA.below hb).more hb.size);rw [hUr] at q1;go_wp2_with fail;refine q1.mono ?_;rintro e w4 ⟨rfl,b4⟩;clear q1 c0 c1 c2' c3' d0 d1 d2 d3 d4;replace BO:=BO.below b4 BO.lt;replace BH:=BH.below b4 BH.lt;replace BG:=BG.below b4 BG.lt;replace BT:=BT.below b4 BT.lt;replace BU:=BU.below b4 BU.lt;replace hb:=ah hb b4;clear b4;replace hA:=hA.strong (fun x hx=>aaj (f2 x hx) (by omega));clear f2;by_cases hf:Jd o more.length u=true
 case neg =>
  rw [show Jd o more.length u=false by simpa using hf];go_wp2_with fail;go_ret;exact ⟨rfl,hb⟩
 rw [hf];clear hf;by_cases h4:inn.length≤4
 case neg =>
  have e4:decide ((4:Int)<(inn.length:Int))=true:=decide_eq_true (by omega);go_wp2_with fail;go_ret;exact ⟨rfl,hb⟩
 have e4:decide ((4:Int)<(inn.length:Int))=false:=decide_eq_false (by omega);by_cases h0:inn.length=0
 case pos =>
  have e5:((inn.length:Int)==0)=true:=by rw [beq_iff_eq];omega
  clear h0;go_wp2_with fail;go_ret;exact ⟨rfl,hb⟩
 have e5:((inn.length:Int)==0)=false:=by rw [beq_eq_false_iff_ne];omega
 by_cases h3:more.length≤3
 case neg =>
  have e6:decide ((3:Int)<(more.length:Int))=true:=decide_eq_true (by omega);go_wp2_with fail;go_ret;exact ⟨rfl,hb⟩
 have e6:decide ((3:Int)<(more.length:Int))=false:=decide_eq_false (by omega);have q1:=X7 A3 more.length c3 more w4 ((hM0.below hb).more hb.size) (by omega);go_wp2_with fail;refine q1.mono ?_;rintro e w5 ⟨rfl,b5⟩;clear q1 e4 e5 e6;replace BO:=BO.below b5 BO.lt;replace BH:=BH.below b5 BH.lt;replace BG:=BG.below b5 BG.lt;replace BT:=BT.below b5 BT.lt;replace BU:=BU.below b5 BU.lt;replace hb:=ah hb b5;clear b5;by_cases hmg:more.all Ltr.good=true
 case neg =>
  rw [show more.all Ltr.good=false by simpa using hmg];clear hmg;go_wp2_with fail;go_ret;exact ⟨rfl,hb⟩
 rw [hmg];replace hmg:=aab hmg;obtain ⟨d0,d1,d2,d3,d4⟩:=hTc.out _ _ r u _ hUC.out BU;have hwr:IntKind.i64.wrap ((more.length:Int)+1)=(more.length:Int)+1:=by rw [IntKind.wrap_i64];omega
 have q1:=X6 r u (more.length+1) w5 ((hU.below hb).more hb.size) (by omega);rw [hUr,show ((more.length+1:Nat):Int)=(more.length:Int)+1 by omega] at q1;go_wp2_with fail;refine q1.mono ?_;rintro e w6 ⟨rfl,b6⟩;clear q1 d0 d1 d2 d3 d4 hwr;replace BO:=BO.below b6 BO.lt;replace BH:=BH.below b6 BH.lt;replace BG:=BG.below b6 BG.lt;replace BT:=BT.below b6 BT.lt;replace BU:=BU.below b6 BU.lt;replace hb:=ah hb b6;clear b6;by_cases huf:u.fit ((more.length:Int)+1)=true
 case neg =>
  rw [show u.fit ((more.length:Int)+1)=false by simpa using huf];clear huf;go_wp2_with fail;go_ret;exact ⟨rfl,hb⟩
 rw [huf];replace huf:=aab huf;obtain ⟨c0,c1,c2',c3'⟩:=hOc.out _ _ hOC.out BO;obtain ⟨d0,d1,d2,d3,d4⟩:=hTc.out _ _ s t _ hTC.out BT;go_upto_region 5 with fail;have LH:=bg BH underlying33 rfl (by rw [hcl.out];exact cO);have q7:=Ai o A Au A2 c cu c2 vs rest h inn s t w6 ((hA.below hb).more hb.size) (by omega) hcap hnilA ((hUs.below hb).more hb.size) hok (by omega) hnilU ho ((hI0.below hb).more hb.size) (by omega) hio ((hT.below hb).more hb.size) (hG.below hb);rw [hTs,hhC.out] at q7;apply wp_region_lit
 iterate 6 go_step
 refine aP (by rfl) (by rfl) (by rfl) LH ?_;simp only [Act.put];go_wp2_with fail;refine q7.mono ?_;rintro e w7 hr;obtain ⟨b7,X1,J1,rfl,x4,x1,j49,j1,-,hyes⟩:=hr.split;clear hr q7 c0 c1 c2' c3' d0 d1 d2 d3 d4 LH;have hxb:W.heap.size+3<w7.heap.size:=by have:=BT.lt;have:=b7.size;omega
 obtain ⟨E,hE⟩:∃ E,Hid (dh o rest h inn t=E):=⟨_,aab rfl⟩
 rw [hE.out] at hyes ⊢;dsimp only
 (refine ‹∀ (a:Act) (w:World),wpList _ _ _ _ a w→_› _ _ ?_)
 iterate 18 go_step
 change wpList _ _ _ _ _ ((w7.alloc (.cells bK 25)).alloc (.cells bC.toArray 49));have BX:=(Blk.new w7 25 bK _ rfl).alloc (.cells bC.toArray 49);have BJ:=Blk.new (w7.alloc (.cells bK 25)) 49 bC.toArray (w7.heap.size+1) (by simp);have b67:=bAl (bAl (aj w7) (.cells bK 25)) (.cells bC.toArray 49);generalize (w7.alloc (.cells bK 25)).alloc (.cells bC.toArray 49)=wa at *;refine aG (q := .pointer (some ⟨w7.heap.size,0,none⟩)) (v := .agg X1) (by rfl) (by rfl) (by rfl) (by rfl) (aQ BX (by rw [x4];exact iM) (by rw [x4];rfl) x1) ?_;simp only [Act.put];have BJ2:=BJ.farRowT BX (by decide) X1;refine aG (q := .pointer (some ⟨w7.heap.size+1,0,none⟩)) (v := .agg J1) (by rfl) (by rfl) (by rfl) (by rfl) (aQ BJ2 (by rw [j49];exact eG) (by rw [j49];exact dW) j1) ?_;simp only [Act.put];have BX3:=(BX.row X1).farRowT BJ2 (by decide) J1;have b68:=below_setRow (below_setRow b67 (aad _) X1) (Nat.le_succ _) J1;clear BX BJ BJ2 b67;generalize (wa.setRow w7.heap.size X1).setRow (w7.heap.size+1) J1=w8 at *;go_upto_region 6 with fail;have BX:=BX3;clear BX3 wa;have b8:=ah b7 b68;have hat:Hid (E=0→OfAt w8 w8.heap.size X1 (oK o rest h inn t)):=aab (fun h0=>(hyes h0 w8 (KeepsW.below b68) b8).1);clear hyes b7 b68 j49 j1;replace BO:=BO.below b8 BO.lt;replace BG:=BG.below b8 BG.lt;replace BU:=BU.below b8 BU.lt;replace hb:=ah hb b8;clear b8 BT BH;obtain ⟨xb,hxb2⟩:∃ xb,w7.heap.size=xb:=⟨_,rfl⟩
 rw [hxb2] at BX hxb ⊢;clear hxb2;by_cases hE0:E=0
 case neg =>
  have hE1:(E != 0)=true:=by simpa using hE0
  clear hE0 hat;go_wp2_with fail;go_ret;exact ⟨rfl,hb⟩
 subst hE0;replace hat:=hat.out rfl;have hw:Hid (dh o rest h inn t=0):=hE;clear hE;have hxg:=aab (CU hw.out hok);obtain ⟨xO,hxO⟩:∃ x,Hid (oK o rest h inn t=x):=⟨_,aab rfl⟩
 rw [hxO.out] at hat hxg;obtain ⟨AX,cX,vX,AuX,cuX,hX,hLX,hcX,hnX,hUX,hokX,hnuX⟩:=hat;replace hX:=aab hX;go_upto_region 8 with fail;have c0:=(hOc.out _ _ hOC.out BO).1;have g4:w8.cell? ⟨W.heap.size+1+1,4,none⟩=some (.int .i64 g.from_):=(BG.cell 4).trans (by rw [←hgC.out,aaG];exact (Hd.cells hgo).2.2.2.2.1);have f4:=BG.frozen 4;go_upto_region 9 with fail;have hgi:∀ v∈gC.toList,∃ k z,v = .int k z:=by rw [←hgC.out];exact Ye g
 have hLX9:=hLX.setH BG hgi g4 (.int .i64 o.no);have hUX9:=X8 hUX g4 Yl (.int .i64 o.no);have BO9:=BO.far (p:=⟨W.heap.size+1+1,4,none⟩) (by show W.heap.size≠W.heap.size+1+1;omega) (.int .i64 o.no);have BU9:=BU.far (p:=⟨W.heap.size+1+1,4,none⟩) (by show W.heap.size+1+1+1+1≠W.heap.size+1+1;omega) (.int .i64 o.no);have BX9:=BX.far (p:=⟨W.heap.size+1+1,4,none⟩) (by show xb≠W.heap.size+1+1;omega) (.int .i64 o.no);have BG9:=BG.set_ 4 (.int .i64 o.no);have hb9:=zQ7 hb (p:=⟨W.heap.size+1+1,4,none⟩) (by show W.heap.size≤W.heap.size+1+1;omega) (.int .i64 o.no);have hs9:(w8.setCell ⟨W.heap.size+1+1,4,none⟩ (.int .i64 o.no)).heap.size=w8.heap.size:=by simp [World.setCell]
 rw [←hgC.out,Yp] at BG9;have hg1:({ g with from_:=o.no } : Hd).ok:=by obtain ⟨h0,h1,h2,h3,h4,h5,h6,h7,h8,h9,h10⟩:=hgo;exact ⟨h0,h1,h2,h3,ino,h5,h6,h7,h8,h9,h10⟩
 clear hLX hUX BO BU BX BG hb g4 f4 c0 hgi;rw [←hs9] at hLX9 hUX9;clear hs9;generalize w8.setCell ⟨W.heap.size+1+1,4,none⟩ (.int .i64 o.no)=w9 at *;have g6:w9.cell? ⟨W.heap.size+1+1,6,none⟩=some (.int .i64 g.many):=(BG9.cell 6).trans (by rw [aaG];exact (Hd.cells hg1).2.2.2.2.2.2.1);have f6:=BG9.frozen 6;go_upto_region 10 with fail;have hgi:∀ v∈({ g with from_:=o.no } : Hd).cl.toArray.toList,∃ k z,v = .int k z:=Ye _;have hLX:=hLX9.setH BG9 hgi g6 (.int .i64 0);have hUX:=X8 hUX9 g6 Yl (.int .i64 0);have BO:=BO9.far (p:=⟨W.heap.size+1+1,6,none⟩) (by show W.heap.size≠W.heap.size+1+1;omega) (.int .i64 0);have BU:=BU9.far (p:=⟨W.heap.size+1+1,6,none⟩) (by show W.heap.size+1+1+1+1≠W.heap.size+1+1;omega) (.int .i64 0);have BX:=BX9.far (p:=⟨W.heap.size+1+1,6,none⟩) (by show xb≠W.heap.size+1+1;omega) (.int .i64 0);have BG:=BG9.set_ 6 (.int .i64 0);have hb:=zQ7 hb9 (p:=⟨W.heap.size+1+1,6,none⟩) (by show W.heap.size≤W.heap.size+1+1;omega) (.int .i64 0);have hs9:(w9.setCell ⟨W.heap.size+1+1,6,none⟩ (.int .i64 0)).heap.size=w9.heap.size:=by simp [World.setCell]
 rw [NQ] at BG;have hg2:=Hd.ok_many hg1 (v:=0) ⟨by omega,by omega⟩;obtain ⟨G,hGq⟩:∃ G,Hid (({ ({ g with from_:=o.no } : Hd) with many:=0 } : Hd)=G):=⟨_,aab rfl⟩
 rw [hGq.out] at BG hg2;obtain ⟨GC,hGC⟩:∃ C,Hid (G.cl.toArray=C):=⟨_,aab rfl⟩
 rw [hGC.out] at BG;have hGs:GC.size=42:=by rw [←hGC.out];simpa using Hd.cl_length hg2
 clear hLX9 hUX9 BO9 BU9 BX9 BG9 hb9 g6 f6 hgi hg1;rw [←hs9] at hLX hUX;clear hs9;generalize w9.setCell ⟨W.heap.size+1+1,6,none⟩ (.int .i64 0)=w10 at *;have LG:=bg BG underlying33 rfl (by rw [hGs];exact cO);have q10:=XW G hg2 w10;rw [hGC.out] at q10;apply wp_region_lit;refine aP (by rfl) (by rfl) (by rfl) LG ?_;simp only [Act.put];go_wp2_with fail;refine q10.mono ?_;rintro e w11 ⟨rfl,b11⟩;clear q10 LG;replace BO:=BO.below b11 BO.lt;replace BG:=BG.below b11 BG.lt;replace BU:=BU.below b11 BU.lt;replace BX:=BX.below b11 BX.lt;replace hLX:=(hLX.below b11).more b11.size;replace hUX:=(hUX.below b11).more b11.size;replace hb:=ah hb b11;clear b11 w8 w9;by_cases hGf:G.formed=true
 case neg =>
  rw [show G.formed=false by simpa using hGf];clear hGf;go_wp2_with fail;go_ret;exact ⟨rfl,hb⟩
 rw [hGf];replace hGf:=aab hGf;go_upto_region 12 with fail;have hMr:=(hM0.below hb).more hb.size;obtain ⟨k,hk⟩:∃ k,Hid (at_ % inn.length=k):=⟨_,aab rfl⟩
 have hkl:k<inn.length:=by rw [←hk.out];exact aaC _ (by omega)
 obtain ⟨x,hx⟩:∃ x,Hid (inn[k]?=some x):=⟨_,aab (aac hkl)⟩
 obtain ⟨bi,oi,rfl,hbi,x0,x1,x2,x3,x4,x5⟩:=jS ((hI0.below hb).more hb.size) hkl hx.out;have hpm:(IntKind.i64.wrap (at_:Int)).tmod (inn.length:Int)=(k:Int):=by rw [show IntKind.i64.wrap (at_:Int)=(at_:Int) by rw [IntKind.wrap_i64];omega,Int.tmod_eq_emod_of_nonneg (by omega),←hk.out];simp
 have KS:Hid (∀ w',Below w11.heap.size w11 w'→(w'.cell? ⟨bi,oi+k*6,none⟩=some (.int .i64 x.a0)∧w'.cell? ⟨bi,oi+k*6+1,none⟩=some (.int .i64 x.b0)∧w'.cell? ⟨bi,oi+k*6+2,none⟩=some (.int .i64 x.a1)∧w'.cell? ⟨bi,oi+k*6+3,none⟩=some (.int .i64 x.b1)∧w'.cell? ⟨bi,oi+k*6+4,none⟩=some (.int .i64 x.a2)∧w'.cell? ⟨bi,oi+k*6+5,none⟩=some (.int .i64 x.b2))) :=
  aab (fun w' b=>⟨(b.cell (p:=⟨bi,oi+k*6,none⟩) hbi).trans x0,(b.cell (p:=⟨bi,oi+k*6+1,none⟩) hbi).trans x1,(b.cell (p:=⟨bi,oi+k*6+2,none⟩) hbi).trans x2,(b.cell (p:=⟨bi,oi+k*6+3,none⟩) hbi).trans x3,(b.cell (p:=⟨bi,oi+k*6+4,none⟩) hbi).trans x4,(b.cell (p:=⟨bi,oi+k*6+5,none⟩) hbi).trans x5⟩)
 have p1:(0:Int)≤(at_:Int):=by omega
 have p2:(at_:Int)≤255:=by omega
 have p3:(0:Int)≤(k:Int):=by omega
 have p4:(k:Int)<(inn.length:Int):=by omega
 have p5:(inn.length:Int)≠0:=by omega
 clear x0 x1 x2 x3 x4 x5;go_cut [22] from 91 (fun s22 wc=>∃ Ab cb,s22 = .slice Ab (more.length+1) cb∧Rd wc wc.heap.size 6 Ab (more.length+1) ((more++[x]).flatMap Ltr.cl)∧Below w11.heap.size w11 wc)
 case first =>
  refine fA (g:=5) KS [(1,1),(3,1),(4,1),(5,1),(6,1),(7,1),(8,1),(9,1),(10,2)] ?_;simp only [bf,aap,aar];refine ae ?_;refine ae ?_;refine ae ?_;refine ae ?_;refine ae ?_;refine ae ?_;refine ae ?_;refine ae ?_;refine az ?_;generalize hv:w11.drew=y0 at *;have B0:Below w11.heap.size w11 y0:=by rw [←hv];exact bDr (aj _)
  clear hv;refine Cc (i:=0) (j:=11) ?_ ?_
  ·
   refine ⟨_,rfl,fun K hK=>?_⟩;go_simp;change K _ (World.alloc y0 (.cells #[] 63));have own0:=Yc y0 63 6 w11.heap.size B0.size;obtain ⟨g0,hg0⟩:∃ a,a=y0.heap.size:=⟨_,rfl⟩
   rw [←hg0] at own0 ⊢;have B2:=bAl B0 (.cells #[] 63);clear hg0;refine aH hK KS ?_;clear hK K;generalize World.alloc y0 (.cells #[] 63)=y1 at *;have hl0:g0<y1.heap.size:=own0.lt g0 (by simp [Value.ownBlock]) |>.2
   refine Cc (i:=2) (j:=11) ?_ ?_
   ·
    refine ⟨_,rfl,fun K hK=>?_⟩;refine bV (.tmp 91) (.tmp 92) 34 w11.heap.size 63 (.agg aB.cells) 6 48 (.slice (some ⟨g0,0,none⟩) 0 0) 0 [] A3 more.length c3 w11.heap.size (more.flatMap Ltr.cl) rfl rfl underlying34 Hz rfl (by omega) rfl own0 rfl (hMr.below B2) hnilM (XL _) (by unfold maxLen;omega) (by omega) B2.size (fun v1 y2 own1 hg1=>?_);have B3:=B2.trans (hg1.below own0 B2.size);refine aH hK KS ?_;clear hK K hg1 own0;refine dS (i:=11) ⟨_,rfl,fun K hK=>?_⟩;go_simp;change K _ (World.alloc y2 (.cells #[.int .i64 x.a0,.int .i64 x.b0,.int .i64 x.a1,.int .i64 x.b1,.int .i64 x.a2,.int .i64 x.b2] 63));obtain ⟨gx,hgx0⟩:∃ a,a=y2.heap.size:=⟨_,rfl⟩
    have BX1:=Blk.new y2 63 #[.int .i64 x.a0,.int .i64 x.b0,.int .i64 x.a1,.int .i64 x.b1,.int .i64 x.a2,.int .i64 x.b2] gx hgx0;rw [←hgx0];replace own1:=own1.alloc (.cells #[.int .i64 x.a0,.int .i64 x.b0,.int .i64 x.a1,.int .i64 x.b1,.int .i64 x.a2,.int .i64 x.b2] 63);have B4:=bAl B3 (.cells #[.int .i64 x.a0,.int .i64 x.b0,.int .i64 x.a1,.int .i64 x.b1,.int .i64 x.a2,.int .i64 x.b2] 63);clear hgx0;refine aH hK KS ?_;clear hK K;generalize World.alloc y2 (.cells #[.int .i64 x.a0,.int .i64 x.b0,.int .i64 x.a1,.int .i64 x.b1,.int .i64 x.a2,.int .i64 x.b2] 63)=y3 at *;refine dS (i:=12) ⟨_,rfl,fun K hK=>?_⟩;refine bV (.tmp 93) (.tmp 102) 34 w11.heap.size 63 (.agg aB.cells) 6 48 v1 (0+more.length) ([]++more.flatMap Ltr.cl) (some ⟨gx,0,none⟩) 1 1 y3.heap.size ([x].flatMap Ltr.cl) rfl rfl underlying34 Hz rfl (by omega) rfl own1 rfl (RdT.of_blk (n:=1) (sz:=6) (xs:=[x].flatMap Ltr.cl) BX1 rfl).rd (fun e=>by cases e) (XL _) (by unfold maxLen;omega) (by omega) B4.size (fun v2 y4 own2 hg2=>?_);have B5:=B4.trans (hg2.below own1 B4.size);refine aH hK KS ?_;clear hK K hg2 own1;refine dS (i:=13) ⟨_,rfl,fun K hK=>?_⟩;go_simp;refine aH hK KS ?_;clear hK K;refine jk ?_;refine NoPanic.normal ?_;go_wp2_with fail;go_meet;rw [aax,aaJ,←aaP] at own2;obtain ⟨Ab,cb,rfl,R2,-⟩:=Sl.of_own own2;exact ⟨Ab,cb,rfl,R2,B5⟩
   ·
    refine ⟨_,rfl,fun K hK=>?_⟩;go_simp;change K _ (World.alloc y1 (.cells #[.int .i64 x.a0,.int .i64 x.b0,.int .i64 x.a1,.int .i64 x.b1,.int .i64 x.a2,.int .i64 x.b2] 63));obtain ⟨gx,hgx0⟩:∃ a,a=y1.heap.size:=⟨_,rfl⟩
    have BX1:=Blk.new y1 63 #[.int .i64 x.a0,.int .i64 x.b0,.int .i64 x.a1,.int .i64 x.b1,.int .i64 x.a2,.int .i64 x.b2] gx hgx0;rw [←hgx0];have hgx:gx≠g0:=(by have:=hl0;omega);replace own0:=own0.alloc (.cells #[.int .i64 x.a0,.int .i64 x.b0,.int .i64 x.a1,.int .i64 x.b1,.int .i64 x.a2,.int .i64 x.b2] 63);have B3:=bAl B2 (.cells #[.int .i64 x.a0,.int .i64 x.b0,.int .i64 x.a1,.int .i64 x.b1,.int .i64 x.a2,.int .i64 x.b2] 63);clear hgx0;refine aH hK KS ?_;clear hK K;generalize World.alloc y1 (.cells #[.int .i64 x.a0,.int .i64 x.b0,.int .i64 x.a1,.int .i64 x.b1,.int .i64 x.a2,.int .i64 x.b2] 63)=y2 at *;refine dS (i:=2) ⟨_,rfl,fun K hK=>?_⟩;refine bV (.tmp 91) (.tmp 92) 34 w11.heap.size 63 (.agg aB.cells) 6 48 (.slice (some ⟨g0,0,none⟩) 0 0) 0 [] A3 more.length c3 w11.heap.size (more.flatMap Ltr.cl) rfl rfl underlying34 Hz rfl (by omega) rfl own0 rfl (hMr.below B3) hnilM (XL _) (by unfold maxLen;omega) (by omega) B3.size (fun v1 y3 own1 hg1=>?_);have B4:=B3.trans (hg1.below own0 B3.size);replace BX1:Blk y3 gx 63 #[.int .i64 x.a0,.int .i64 x.b0,.int .i64 x.a1,.int .i64 x.b1,.int .i64 x.a2,.int .i64 x.b2]:=(hg1.other BX1.lt (by simp [Value.ownBlock];exact hgx)).trans BX1;refine aH hK KS ?_;clear hK K hg1 own0;refine dS (i:=12) ⟨_,rfl,fun K hK=>?_⟩;refine bV (.tmp 93) (.tmp 102) 34 w11.heap.size 63 (.agg aB.cells) 6 48 v1 (0+more.length) ([]++more.flatMap Ltr.cl) (some ⟨gx,0,none⟩) 1 1 y3.heap.size ([x].flatMap Ltr.cl) rfl rfl underlying34 Hz rfl (by omega) rfl own1 rfl (RdT.of_blk (n:=1) (sz:=6) (xs:=[x].flatMap Ltr.cl) BX1 rfl).rd (fun e=>by cases e) (XL _) (by unfold maxLen;omega) (by omega) B4.size (fun v2 y4 own2 hg2=>?_)
    have B5:=B4.trans (hg2.below own1 B4.size);refine aH hK KS ?_;clear hK K hg2 own1;refine dS (i:=13) ⟨_,rfl,fun K hK=>?_⟩;go_simp;refine aH hK KS ?_;clear hK K;refine jk ?_;refine NoPanic.normal ?_;go_wp2_with fail;go_meet;rw [aax,aaJ,←aaP] at own2;obtain ⟨Ab,cb,rfl,R2,-⟩:=Sl.of_own own2;exact ⟨Ab,cb,rfl,R2,B5⟩
  ·
   refine ⟨_,rfl,fun K hK=>?_⟩;go_simp;change K _ (World.alloc y0 (.cells #[.int .i64 x.a0,.int .i64 x.b0,.int .i64 x.a1,.int .i64 x.b1,.int .i64 x.a2,.int .i64 x.b2] 63));obtain ⟨gx,hgx0⟩:∃ a,a=y0.heap.size:=⟨_,rfl⟩
   have BX1:=Blk.new y0 63 #[.int .i64 x.a0,.int .i64 x.b0,.int .i64 x.a1,.int .i64 x.b1,.int .i64 x.a2,.int .i64 x.b2] gx hgx0;rw [←hgx0];have B2:=bAl B0 (.cells #[.int .i64 x.a0,.int .i64 x.b0,.int .i64 x.a1,.int .i64 x.b1,.int .i64 x.a2,.int .i64 x.b2] 63);clear hgx0;refine aH hK KS ?_;clear hK K;generalize World.alloc y0 (.cells #[.int .i64 x.a0,.int .i64 x.b0,.int .i64 x.a1,.int .i64 x.b1,.int .i64 x.a2,.int .i64 x.b2] 63)=y1 at *;refine dS (i:=0) ⟨_,rfl,fun K hK=>?_⟩;go_simp;change K _ (World.alloc y1 (.cells #[] 63));have own0:=Yc y1 63 6 w11.heap.size B2.size;obtain ⟨g0,hg0⟩:∃ a,a=y1.heap.size:=⟨_,rfl⟩
   rw [←hg0] at own0 ⊢;have hgx:gx≠g0:=(by have:=BX1.lt;omega);replace BX1:=BX1.alloc (.cells #[] 63);have B3:=bAl B2 (.cells #[] 63);clear hg0;refine aH hK KS ?_;clear hK K;generalize World.alloc y1 (.cells #[] 63)=y2 at *;refine dS (i:=2) ⟨_,rfl,fun K hK=>?_⟩;refine bV (.tmp 91) (.tmp 92) 34 w11.heap.size 63 (.agg aB.cells) 6 48 (.slice (some ⟨g0,0,none⟩) 0 0) 0 [] A3 more.length c3 w11.heap.size (more.flatMap Ltr.cl) rfl rfl underlying34 Hz rfl (by omega) rfl own0 rfl (hMr.below B3) hnilM (XL _) (by unfold maxLen;omega) (by omega) B3.size (fun v1 y3 own1 hg1=>?_);have B4:=B3.trans (hg1.below own0 B3.size);replace BX1:Blk y3 gx 63 #[.int .i64 x.a0,.int .i64 x.b0,.int .i64 x.a1,.int .i64 x.b1,.int .i64 x.a2,.int .i64 x.b2]:=(hg1.other BX1.lt (by simp [Value.ownBlock];exact hgx)).trans BX1;refine aH hK KS ?_;clear hK K hg1 own0;refine dS (i:=12) ⟨_,rfl,fun K hK=>?_⟩;refine bV (.tmp 93) (.tmp 102) 34 w11.heap.size 63 (.agg aB.cells) 6 48 v1 (0+more.length) ([]++more.flatMap Ltr.cl) (some ⟨gx,0,none⟩) 1 1 y3.heap.size ([x].flatMap Ltr.cl) rfl rfl underlying34 Hz rfl (by omega) rfl own1 rfl (RdT.of_blk (n:=1) (sz:=6) (xs:=[x].flatMap Ltr.cl) BX1 rfl).rd (fun e=>by cases e) (XL _) (by unfold maxLen;omega) (by omega) B4.size (fun v2 y4 own2 hg2=>?_);have B5:=B4.trans (hg2.below own1 B4.size);refine aH hK KS ?_;clear hK K hg2 own1;refine dS (i:=13) ⟨_,rfl,fun K hK=>?_⟩;go_simp;refine aH hK KS ?_;clear hK K;refine jk ?_;refine NoPanic.normal ?_;go_wp2_with fail;go_meet;rw [aax,aaJ,←aaP] at own2
   obtain ⟨Ab,cb,rfl,R2,-⟩:=Sl.of_own own2;exact ⟨Ab,cb,rfl,R2,B5⟩
 case rest =>
  obtain ⟨Ab,cb,rfl,hRb,b12⟩:=hcut;clear KS p1 p2 p3 p4 p5 hpm hMr;replace BO:=BO.below b12 BO.lt;replace BG:=BG.below b12 BG.lt;replace BU:=BU.below b12 BU.lt;replace BX:=BX.below b12 BX.lt;replace hLX:=(hLX.below b12).more b12.size;replace hUX:=(hUX.below b12).more b12.size;replace hb:=ah hb b12;clear b12 hbi w11;obtain ⟨L2,hL2⟩:∃ l,Hid (more++[x]=l):=⟨_,aab rfl⟩
  have hl2:L2.length=more.length+1:=by rw [←hL2.out];simp
  rw [hL2.out,←hl2] at hRb;obtain ⟨-,-,-,hck,-,uu,hu1,hu2,-⟩:=iD hw.out;have hxU:xO.used=uu:=by rw [←hxO.out];show (mM o inn).getD []=uu;rw [hu1];rfl
  have hxl:xO.used.length=o.used.length+inn.length:=by
   rw [hxU];have h1:=XN hu1
   rwa [aaQ] at h1
  have hmem:Hid (∀ d,d∈o.used∨d∈inn.map kD→d∈xO.used):=aab (fun d h=>by rw [hxU];exact (CS hu1 d).2 h);have hxc:xO.chain.length≤17:=by rw [←hxO.out];show (o.chain++[zh o rest h inn t]).length≤17;rw [aan,List.length_singleton];omega
  have hxr:Dw xO.used=true:=by
   have h1:=hxg.out;unfold Ofc.good at h1;simp only [aal,decide_eq_true_eq] at h1;exact h1.2.2.1
  have hxm:x∈inn:=aam hx.out;have hgi:=(wJ.1 hck).2
  have hga:L2.all Ltr.good=true:=by
   rw [←hL2.out,List.all_append,hmg.out];simpa using aau.1 hgi x hxm
  have hE2:dh xO rest G L2 u=491:=by
   rw [←hxO.out]
   refine KY hw.out hok (by rw [←hGq.out]) (by
    have h1:=hGf.out;rw [←hGq.out] at h1 ⊢;unfold Hd.formed at h1 ⊢;exact h1) (wJ.2 ⟨by omega,hga⟩) ?_ hxm (by rw [←hL2.out];exact aaL.2 (.inr (List.mem_singleton_self _)))
   have h2:=wJ.1 (J5 (s:=o.secret) (wJ.2 ⟨show L2.length≤64 by omega,hga⟩));unfold kw;rw [if_pos (xm hw.out).1,if_neg (by have:=h2.1;omega),if_pos h2.2,if_pos (by rw [dJ,hl2,show ((more.length+1:Nat):Int)=(more.length:Int)+1 by omega];exact huf.out)]
  have q13:=Ai xO AX AuX Ab cX cuX cb vX rest G L2 r u wc hLX (by omega) hcX hnX hUX hokX (by omega) hnuX hg2 hRb (by omega) (fun y hy=>FX (aau.1 hga y hy)) ((hU.below hb).more hb.size) (hG.below hb);rw [hl2,hUr,hGC.out] at q13;have e0:=(BX.cell 0).trans (show X1[0]?=some (.int .i64 xO.no) by rw [hX.out];rfl);have e1:=(BX.cell 1).trans (show X1[1]?=some (.int .i64 xO.secret) by rw [hX.out];rfl);have e2:=(BX.cell 2).trans (show X1[2]?=some (.slice AX xO.chain.length cX) by rw [hX.out];rfl);have e3:=(BX.cell 3).trans (show X1[3]?=some (.slice AuX xO.used.length cuX) by rw [hX.out];rfl);obtain ⟨d0,d1,d2,d3,d4⟩:=hTc.out _ _ r u _ hUC.out BU;have LG:=bg BG underlying33 rfl (by rw [hGs];exact cO);replace hga:=aab hga;replace hgi:=aab hgi;replace hxU:=aab hxU;replace hck:=aab hck;replace hl2:=aab hl2;replace hxl:=aab hxl;replace hxr:=aab hxr;clear hu1 hu2 hRb hLX;go_upto_region 13 with fail;apply wp_region_lit
  iterate 6 go_step
  refine aP (by rfl) (by rfl) (by rfl) LG ?_;simp only [Act.put];go_wp2_with fail;refine q13.mono ?_;rintro e w14 hr;obtain ⟨b14,X2,J2,rfl,x4',x1',j49,j1,-,-⟩:=hr.split;rw [hE2];clear hr q13 hE2 e0 e1 e2 e3 d0 d1 d2 d3 d4 LG;dsimp only
  (refine ‹∀ (a:Act) (w:World),wpList _ _ _ _ a w→_› _ _ ?_)
  iterate 18 go_step
  change wpList _ _ _ _ _ ((w14.alloc (.cells bK 25)).alloc (.cells bC.toArray 49));have BY:=(Blk.new w14 25 bK _ rfl).alloc (.cells bC.toArray 49);have BJ:=Blk.new (w14.alloc (.cells bK 25)) 49 bC.toArray (w14.heap.size+1) (by simp);have b67:=bAl (bAl (aj w14) (.cells bK 25)) (.cells bC.toArray 49);generalize (w14.alloc (.cells bK 25)).alloc (.cells bC.toArray 49)=wa at *;refine aG (q := .pointer (some ⟨w14.heap.size,0,none⟩)) (v := .agg X2) (by rfl) (by rfl) (by rfl) (by rfl) (aQ BY (by rw [x4'];exact iM) (by rw [x4'];rfl) x1') ?_;simp only [Act.put];have BJ2:=BJ.farRowT BY (by decide) X2;refine aG (q := .pointer (some ⟨w14.heap.size+1,0,none⟩)) (v := .agg J2) (by rfl) (by rfl) (by rfl) (by rfl) (aQ BJ2 (by rw [j49];exact eG) (by rw [j49];exact dW) j1) ?_;simp only [Act.put];have b68:=ah b14 (below_setRow (below_setRow b67 (aad _) X2) (Nat.le_succ _) J2);clear BY BJ BJ2 b67 b14;generalize (wa.setRow w14.heap.size X2).setRow (w14.heap.size+1) J2=w15 at *;go_upto_region 14 with fail;clear wa x4' x1' j49 j1;replace BO:=BO.below b68 BO.lt;replace BX:=BX.below b68 BX.lt;replace hUX:=(hUX.below b68).more b68.size;replace hb:=ah hb b68;clear b68 BU BG;have e3:=(BX.cell 3).trans (show X1[3]?=some (.slice AuX xO.used.length cuX) by rw [hX.out];rfl);have c3':=(hOc.out _ _ hOC.out BO).2.2.2;have hwr:IntKind.i64.wrap ((o.used.length:Int)+(inn.length:Int))=(o.used.length:Int)+(inn.length:Int):=by rw [IntKind.wrap_i64];omega
  have hne:((xO.used.length:Int) != (o.used.length:Int)+(inn.length:Int))=false:=by simp [hxl.out]
  have q15:=TR AuX cuX xO.used w15 hUX hokX hxr.out (by have:=hxl.out;omega);go_wp2_with fail;refine q15.mono ?_;rintro e w16 ⟨rfl,b16⟩;replace BO:=BO.below b16 BO.lt;replace BX:=BX.below b16 BX.lt;replace hUX:=(hUX.below b16).more b16.size;replace hb:=ah hb b16;clear b16 q15 e3 hwr hne;have c3':=(hOc.out _ _ hOC.out BO).2.2.2;go_upto_region 16 with fail;go_wp2_with fail;have hXu:Hid (X1[3]?=some (.slice AuX xO.used.length cuX)):=aab (by rw [hX.out];rfl);clear c3';go_loopw [137] (fun i wr=>∃ k:Nat,k≤o.used.length∧i = .int .i64 k∧Below w16.heap.size w16 wr) (fun i _=>o.used.length - (intOf i).toNat)
  case atStart=>exact ⟨0,by omega,rfl,aj _⟩
  case round =>
   obtain ⟨k,hkn,rfl,b17⟩:=hrel;by_cases hlt:k<o.used.length
   ·obtain ⟨d,hd⟩:∃ d,Hid (o.used[k]?=some d):=⟨_,aab (aac hlt)⟩
    have hdo:=hok d (aam hd.out);obtain ⟨b1,o1,rfl,l1,k1⟩:=zf (hUs.below (ah hb b17)) hok hlt hd.out;have LD:=fF k1 hdo.1;have m1:(0:Int)≤(k:Int):=(by omega);have m2:(k:Int)<(o.used.length:Int):=by omega
    have q17:Hid (∀ w',Below w16.heap.size w16 w'→Calls prog 30 #[.slice AuX xO.used.length cuX,.agg (ag d).toArray] w' (Ret (.bool true) w')):=aab (fun w' b =>
     Yb AuX cuX xO.used d w' ((hUX.below b).more b.size) hokX hdo (hmem.out d (.inl (aam hd.out))) (by have:=hxl.out;omega))
    have hDs:(ag d).toArray.size=32:=(by rw [aae,ai,hdo.1]);have hD1:∀ v∈(ag d).toArray.toList,v.oneCell'=true:=fun v hv=>aZ v (by simpa using hv);clear k1;generalize hD:(ag d).toArray=D at *;replace hD:=aab hD;go_upto_region 18 with fail;apply wp_region_lit
    iterate 3 go_step
    refine aP (by rfl) (by rfl) (by rfl) LD ?_;simp only [Act.put]
    iterate 3 go_step
    refine aG (v := .agg D) (by rfl) (by rfl) (by rfl) (by rfl) (bP (old:=(ag (aF 32)).toArray) (by rw [hDs];exact aW) (by rw [hDs,aae,ai];rfl) hD1) ?_;simp only [Act.put];have BN:=Blk.new wr 29 D _ rfl;have BX2:=(BX.below b17 BX.lt).alloc (.cells D 29);have b18:=bAl b17 (.cells D 29);generalize hbn:wr.heap.size=bn at *;generalize wr.alloc (.cells D 29)=wn at *;go_upto_region 19 with fail;have e3:=(BX2.cell 3).trans hXu.out;have LN:=bg BN underlying29 rfl (by rw [hDs];exact aW);apply wp_region_lit
    iterate 6 go_step
    refine aP (by rfl) (by rfl) (by rfl) LN ?_;simp only [Act.put];go_wp2_with fail;refine (q17.out wn b18).mono ?_;rintro e w19 ⟨rfl,b19⟩;go_wp2_with fail;exact ⟨⟨k+1,by omega,by go_num,ah b18 b19⟩,by simp [intOf];omega⟩
   ·replace BX:=BX.below b17 BX.lt
    replace hUX:=(hUX.below b17).more b17.size;replace hb:=ah hb b17;go_upto_region 22 with fail;clear b17 hlt hkn;obtain ⟨w20,rfl⟩:∃ a,a=wr:=⟨_,rfl⟩
    go_wp2_with fail;go_loopw [149] (fun i wr=>∃ k:Nat,k≤inn.length∧i = .int .i64 k∧Below w20.heap.size w20 wr) (fun i _=>inn.length - (intOf i).toNat)
    case atStart=>exact ⟨0,by omega,rfl,aj _⟩
    case round =>
     obtain ⟨k,hkn,rfl,b17⟩:=hrel;by_cases hlt:k<inn.length
     ·obtain ⟨y,hy⟩:∃ y,Hid (inn[k]?=some y):=⟨_,aab (aac hlt)⟩
      have hyo:=hio y (aam hy.out);obtain ⟨b',o',e',-,x0,x1,x2,x3,x4',x5⟩:=jS (hI0.below (ah hb b17)) hlt hy.out;injection e' with e'
      injection e' with e1 e2
      subst e1;subst e2;have m1:(0:Int)≤(k:Int):=(by omega);have m2:(k:Int)<(inn.length:Int):=by omega
      have qh:Hid (∀ w',Below w20.heap.size w20 w'→Calls prog 30 #[.slice AuX xO.used.length cuX,dig (kD y)] w' (Ret (.bool true) w')):=aab (fun w' b =>
       Yb AuX cuX xO.used (kD y) w' ((hUX.below b).more b.size) hokX (NH y) (hmem.out _ (.inr (List.mem_map_of_mem (aam hy.out)))) (by have:=hxl.out;omega))
      have qd:Hid (∀ w',Calls prog 31 #[.agg #[.int .i64 y.a0,.int .i64 y.b0,.int .i64 y.a1,.int .i64 y.b1,.int .i64 y.a2,.int .i64 y.b2]] w' (Ret (dig (kD y)) w')):=aab (fun w'=>XY y hyo w');go_upto_region 24 with fail;go_upto_region 25 with fail;have BN:=Blk.new wr 63 #[.int .i64 y.a0,.int .i64 y.b0,.int .i64 y.a1,.int .i64 y.b1,.int .i64 y.a2,.int .i64 y.b2] _ rfl;have BX2:=(BX.below b17 BX.lt).alloc (.cells #[.int .i64 y.a0,.int .i64 y.b0,.int .i64 y.a1,.int .i64 y.b1,.int .i64 y.a2,.int .i64 y.b2] 63);have b18:=bAl b17 (.cells #[.int .i64 y.a0,.int .i64 y.b0,.int .i64 y.a1,.int .i64 y.b1,.int .i64 y.a2,.int .i64 y.b2] 63);generalize hbn:wr.heap.size=bn at *;generalize wr.alloc (.cells #[.int .i64 y.a0,.int .i64 y.b0,.int .i64 y.a1,.int .i64 y.b1,.int .i64 y.a2,.int .i64 y.b2] 63)=wn at *;clear x0 x1 x2 x3 x4' x5
      have KS:Hid (∀ w',Below wn.heap.size wn w'→(w'.cell? ⟨xb,3,none⟩=some (.slice AuX xO.used.length cuX)∧w'.cell? ⟨bn,0,none⟩=some (.int .i64 y.a0)∧w'.cell? ⟨bn,1,none⟩=some (.int .i64 y.b0)∧w'.cell? ⟨bn,2,none⟩=some (.int .i64 y.a1)∧w'.cell? ⟨bn,3,none⟩=some (.int .i64 y.b1)∧w'.cell? ⟨bn,4,none⟩=some (.int .i64 y.a2)∧w'.cell? ⟨bn,5,none⟩=some (.int .i64 y.b2))) :=
       aab (fun w' b=>⟨((BX2.below b BX2.lt).cell 3).trans hXu.out,(BN.below b BN.lt).six⟩)
      generalize dig (kD y)=DY at *;refine fA (g:=0) KS [(0,1),(1,2),(2,2),(3,0),(4,0),(5,1)] ?_;simp only [bf,aap,aar];refine ae ?_;refine az ?_;refine az ?_;refine bW (fun K hK=>?_);go_simp;(first | (go_at_call 31;(with_reducible refine (qd.out _).mono ?_);rintro e w6 ⟨rfl,b6⟩;have B6:Below wn.heap.size wn w6:=ah (bDr (aj _)) b6) | (go_at_call 30;(with_reducible refine (qh.out _ (ah b18 B6)).mono ?_);rintro e w7 ⟨rfl,b7⟩;have B7:Below wn.heap.size wn w7:=ah B6 b7) | skip);refine aH hK KS ?_;clear hK K;refine bW (fun K hK=>?_);go_simp;(first | (go_at_call 31;(with_reducible refine (qd.out _).mono ?_);rintro e w6 ⟨rfl,b6⟩;have B6:Below wn.heap.size wn w6:=ah (bDr (aj _)) b6) | (go_at_call 30;(with_reducible refine (qh.out _ (ah b18 B6)).mono ?_);rintro e w7 ⟨rfl,b7⟩;have B7:Below wn.heap.size wn w7:=ah B6 b7) | skip);refine aH hK KS ?_;clear hK K;refine ae ?_;refine jk ?_;refine NoPanic.normal ?_;go_wp2_with fail;exact ⟨⟨k+1,by omega,by go_num,ah b18 B7⟩,by simp [intOf];omega⟩
     ·go_wp2_with fail
      go_ret;exact ⟨rfl,ah hb b17⟩
end
end Go.Proofs.YthbibbkbaphpkaaGreatDoor

/- Maps that a call makes, in plain words: a map from whole numbers to truth values. -/
import Derived.Test.YthbibbkbaphpkaaGreatDoorMaa
import Derived.Maps.OwnOps
import Derived.Maps.OwnSet
import Derived.Test.YthbibbkbaphpkaaGreatDoorMai
import Derived.Test.YthbibbkbaphpkaaGreatDoorMaj
set_option maxHeartbeats 16000000
set_option maxRecDepth 1000000
namespace Go.Proofs.YthbibbkbaphpkaaGreatDoor
open _root_.Go.Proofs.Tryz
section
open Go.RowKit Go.Maps
def BMap (P:Program) (k e:TypeId) (w:World) (b n:Nat) (s:Int→Bool):Prop :=
 ∃ D:DataW Unit,w.ownsMap P k (plainElem P e) b n D∧IsMap D∧∀ i:Int,D.atKey (.int .i64 i) (.lit (.bool false)) = .lit (.bool (s i))
section
variable {P:Program} {k e t:TypeId} {w w':World} {b n:Nat} {s:Int→Bool}
theorem BMap.made (w:World) (P:Program) (k e:TypeId):BMap P k e (w.alloc (.map #[] 0)) w.heap.size 0 (fun _=>false) :=
 ⟨.map [],World.ownsMap_made w P k _,isMap_empty,fun _=>rfl⟩
theorem BMap.lt (h:BMap P k e w b n s):b<w.heap.size:=by
 obtain ⟨D,h,_⟩:=h;exact h.lt
theorem BMap.below (h:BMap P k e w b n s) (hb:Below w.heap.size w w'):BMap P k e w' b n s:=by
 have hlt:=h.lt;obtain ⟨D,⟨es,clock,hm,r⟩,h2⟩:=h;exact ⟨D,⟨es,clock,(hb.block b hlt).trans hm,r⟩,h2⟩
theorem BMap.far (h:BMap P k e w b n s) {p:Addr} (hp:b≠p.block) (u:Value):BMap P k e (w.setCell p u) b n s:=by
 obtain ⟨D,h1,h2⟩:=h;exact ⟨D,h1.setCell hp u,h2⟩
theorem BMap.grown {row:Option Nat} (h:BMap P k e w b n s) (hg:w.grownBy w' row) (hr:some b≠row):BMap P k e w' b n s:=by
 obtain ⟨D,h1,h2⟩:=h;exact ⟨D,h1.kept hg hr,h2⟩
theorem BMap.same {s':Int→Bool} (hs:∀ i,s' i=s i) (h:BMap P k e w b n s):BMap P k e w b n s':=by
 have:s'=s:=funext hs
 rw [this];exact h
theorem BMap.mono {n':Nat} (h:BMap P k e w b n s) (hn:n≤n'):BMap P k e w b n' s:=by
 obtain ⟨D,h1,h2⟩:=h;exact ⟨D,h1.mono hn,h2⟩
theorem BMap.look (h:BMap P k e w b n s) (hk:P.underlying k=some (.int .i64)) (he:P.underlying e=some .bool) (ht:P.underlying t=some (.map k e)) (hz:(zeroValue e).run P w = .ok (.bool false) w)
  {i:Int} (hi:(Lit.int .i64 i).wf=true):(Instr.lookup t (.map (some b)) (.int .i64 i) false).run P w = .ok (.bool (s i)) w:=by
 obtain ⟨D,h1,_,h3⟩:=h;obtain ⟨v,ps,hrun,hv⟩:=h1.lookup (int_keyed hk) ht hz (plainElem_bool he false) (keyOf_int_mk hk hi);rw [h3] at hv;rw [hrun];cases v <;> simp [plainElem,he] at hv
 rw [hv.1]
theorem zI {ops:Array Oper} {rest:List Oper} {o:Oper} {a:Act} {Q:Exit→Act→World→Prop}
  (hg:o.guard=none) (m x v:Operand) (t:TypeId) (hop:o.op=Op.mapUpdate t m x v) (h:BMap P k e w b n s) (hk:P.underlying k=some (.int .i64)) (he:P.underlying e=some .bool) (ht:P.underlying t=some (.map k e))
  (hm:a.eval m = .map (some b)) (hn:n<1000000) (i:Int) (y:Bool) (hx:a.eval x = .int .i64 i) (hv:a.eval v = .bool y) (hi:(Lit.int .i64 i).wf=true)
  (hK:∀ w',BMap P k e w' b (n+1) (fun j=>if j=i then y else s j)→w.grownBy w' (some b)→wpList P ops Q rest (a.put o.dst undef) w') :
  wpList P ops Q (o::rest) a w:=by
 obtain ⟨D,h1,h2,h3⟩:=h;refine wpList_mapUpdate_own w hg m x v t hop k e (int_keyed hk) ht _ b n D hm h1 (by unfold maxLen;omega) _ _ _ hx hv (keyOf_int_mk hk hi) _ [] (plainElem_bool he y) ?_;intro w' hown hgr;refine hK w' ⟨_,hown,h2.put _ _,fun j=>?_⟩ hgr;by_cases hj:j=i
 ·subst hj
  rw [atKey_put_same h2 (k := .int .i64 j) (by exact trivial)]
  simp
 ·rw [atKey_put_other (by intro h;injection h with _ h;exact hj h),h3]
  simp [hj]
end
end
section
open Go.RowKit
theorem Wh (b:Int) (W:World):Calls prog 182 #[.int .i64 b] W (Same (.bool (eU b)) W):=by
 have e:eU b=((b==0)||(b==1)):=by unfold eU;rw [abb];simp
 rw [e];cases h0:(b==0) <;> cases h1:(b==1)
 all_goals
  go_enter func182,ntmps182;go_wp2
  go_ret;exact ⟨rfl,rfl⟩
theorem UM (b:Int) (W:World):Calls prog 181 #[.int .i64 b] W (Same (.bool !eU b) W):=by
 have q:=Wh b W;go_enter func181,ntmps181;go_wp2_with fail;refine q.mono ?_;rintro e w1 ⟨rfl,rfl⟩;go_wp2_with fail;go_ret;exact ⟨rfl,rfl⟩
def kH {α:Type} (p:α→Bool) (l:List α):Int:=match l.findIdx? p with | some k=>k | none => -1
theorem oH {α:Type} {p:α→Bool} {l:List α} (h:∀ y∈l,p y=false):kH p l = -1:=by unfold kH;rw [qG h]
theorem yu {α:Type} {p:α→Bool} {l:List α} {k:Nat} {x:α} (h:∀ y∈l.take k,p y=false) (hx:l[k]?=some x) (hp:p x=true):kH p l=(k:Int):=by unfold kH;rw [rP h hx hp]
theorem uY {α:Type} {p:α→Bool} {l:List α} : decide (0≤kH p l)=l.any p:=by
 cases h:l.any p
 ·rw [oH (fun y hy=>by have:=List.any_eq_false.1 h y hy;simpa using this)];rfl
 ·obtain ⟨y,hy,hb⟩:=List.any_eq_true.1 h
  unfold kH;cases hf:l.findIdx? p with
  | none=>rw [List.findIdx?_eq_none_iff] at hf;rw [hf y hy] at hb;cases hb
  | some k=>exact decide_eq_true (by show (0:Int)≤(k:Int);omega)
theorem wQ {α:Type} {p:α→Bool} {l:List α} {k:Nat} {x:α} (h:∀ y∈l.take k,p y=false) (hx:l[k]?=some x) (hp:p x=false):∀ y∈l.take (k+1),p y=false:=by
 intro y hy;obtain ⟨hk,rfl⟩:=aag.1 hx;rw [aaB hk] at hy;rcases aaL.1 hy with hy | hy
 ·exact h y hy
 ·obtain rfl:y=l[k]:=by simpa using hy
  exact hp
theorem Ph (A:Option Addr) (c:Nat) (l:List Int) (W:World) (hA:Rd W W.heap.size 1 A l.length (ints l)) (hn:l.length≤9223372036854775807) :
  Calls prog 236 #[.slice A l.length c,.func (.func 181) #[] #[]] W (Ret (.int .i64 (kH (fun b=>!eU b) l)) W):=by
 go_enter func236,ntmps236;go_wp2_with fail;go_loopw [8] (fun i wr=>∃ k:Nat,k≤l.length∧i = .int .i64 k∧Below W.heap.size W wr∧Hid (∀ y∈l.take k,(!eU y)=false)) (fun i _=>l.length - (intOf i).toNat)
 case atStart=>exact ⟨0,aao _,rfl,aj _,aab (by simp)⟩
 case round =>
  obtain ⟨k,hkn,rfl,hb,hp⟩:=hrel;by_cases hlt:k<l.length
  ·obtain ⟨x,hx⟩:∃ x,Hid (l[k]?=some x):=⟨_,aab (aac hlt)⟩
   obtain ⟨b,off,rfl,hbb,c0⟩:=jq (hA.below hb) hlt hx.out;have q:=UM x wr;cases hg:(!eU x)
   ·have hp':=aab (wQ hp.out hx.out hg)
    rw [hg] at q;clear hg;go_wp2_with fail;refine q.mono ?_;rintro e w1 ⟨rfl,rfl⟩;clear q;go_wp2_with fail;exact ⟨⟨k+1,by omega,by go_num,hb,hp'⟩,by simp [intOf];omega⟩
   ·have hres:=aab (yu (p:=fun b=>!eU b) hp.out hx.out hg)
    rw [hg] at q;clear hg;go_wp2_with fail;refine q.mono ?_;rintro e w1 ⟨rfl,rfl⟩;clear q;go_wp2_with fail;go_ret;exact ⟨eX hres.out.symm,hb⟩
  ·have hres:Hid (kH (fun b=>!eU b) l = -1):=aab (oH (by have:=hp.out;rwa [aaH (by omega)] at this))
   go_wp2_with fail;go_ret;exact ⟨eX hres.out.symm,hb⟩
theorem UN (l:List Int):l.any (fun b=>!eU b)=!l.all eU:=by rw [List.all_eq_not_any_not,Bool.not_not]
theorem Fv (A:Option Addr) (c:Nat) (l:List Int) (W:World) (hA:Rd W W.heap.size 1 A l.length (ints l)) (hn:l.length≤9223372036854775807) :
  Calls prog 180 #[.slice A l.length c,.func (.func 181) #[] #[]] W (Ret (.bool !(l.all eU)) W):=by
 have q:=Ph A c l W hA hn;have hg:=uY (p:=fun b=>!eU b) (l:=l);rw [UN] at hg;generalize kH (fun b=>!eU b) l=i at *;cases hall:(!(l.all eU))
 all_goals
  rw [hall] at hg;have hg':=aab hg;have h1:=hg;simp at h1;clear hg hall;go_enter func180,ntmps180;go_wp2_with fail;refine q.mono ?_;rintro e w1 ⟨rfl,b1⟩;clear q;go_wp2_with fail;go_ret;exact ⟨by first | rfl | exact aI hg'.out,b1⟩
theorem yw (A:Option Addr) (c:Nat) (l:List Int) (W:World) (hA:Rd W W.heap.size 1 A l.length (ints l)) (hn:l.length≤9223372036854775807) :
  Calls prog 104 #[.slice A l.length c] W (Ret (.bool (l.all eU)) W):=by
 have q:=Fv A c l W hA hn;go_enter func104,ntmps104;go_wp2_with fail;refine q.mono ?_;rintro e w1 ⟨rfl,b1⟩;clear q;go_wp2_with fail;go_ret;exact ⟨aI (by simp),b1⟩
theorem Rq (n:Int) (A:Option Addr) (m c bp:Nat) (W:World) (BP:Blk W bp 35 #[.slice A m c]) :
  Calls prog 235 #[.int .i64 n,.pointer (some ⟨bp,0,none⟩)] W (Same (.bool (decide (0≤n∧n<(m:Int)))) W):=by
 have d0:=BP.cell 0;by_cases h0:0≤n
 all_goals
  go_enter func235,ntmps235;go_wp2
  go_ret;exact ⟨aI (by rw [abb];simp;omega),rfl⟩
theorem Nh {l:List Int} {k:Nat} {x:Int} (hx:l[k]?=some x) (h:x∈l.take k∨¬(0≤x∧x<(l.length:Int))):nS l=false:=by
 obtain ⟨hk,rfl⟩:=aag.1 hx;cases hp:nS l with
 | false=>rfl
 | true =>
  unfold nS at hp;rw [aal,aau,decide_eq_true_eq] at hp;rcases h with h | h
  ·obtain ⟨i,hi,e⟩:=List.mem_take_iff_getElem.1 h
   have hi':i<k:=by omega
   have:=tV hp.2 _ _ e
   omega
  ·exact absurd (of_decide_eq_true (hp.1 _ (List.getElem_mem hk))) h
theorem J8 {l:List Int} {k:Nat} {x:Int} (h:(l.take k).Nodup) (hx:l[k]?=some x) (hn:x ∉ l.take k):(l.take (k+1)).Nodup:=by
 obtain ⟨hk,rfl⟩:=aag.1 hx;rw [aaB hk,List.nodup_append];refine ⟨h,by simp,fun a ha b hb e=>?_⟩;obtain rfl:b=l[k]:=by simpa using hb
 exact hn (e▸ha)
theorem UO (A:Option Addr) (c bp:Nat) (l:List Int) (W:World) (hA:Rd W W.heap.size 1 A l.length (ints l)) (hi:∀ x∈l,inI x) (BP:Blk W bp 35 #[.slice A l.length c]) (hn:l.length≤1000) :
  Calls prog 234 #[.slice A l.length c,.func (.func 235) #[] #[.pointer (some ⟨bp,0,none⟩)]] W (Ret (.bool (nS l)) W):=by
 have hmm:=@run_makeMap prog;go_enter func234,ntmps234;go_wp2_with fail;have BM0:=BMap.made W prog 3 4;have hb0:=bAl (aj W) (.map #[] 0);have hlt0:=BP.lt;generalize W.alloc (.map #[] 0)=w1 at *;go_loopw [11] (fun i wr=>∃ k:Nat,k≤l.length∧i = .int .i64 k∧Below W.heap.size W wr∧BMap prog 3 4 wr W.heap.size k (fun z=>decide (z∈l.take k))∧Hid ((l.take k).Nodup∧∀ x∈l.take k,0≤x∧x<(l.length:Int))) (fun i _=>l.length - (intOf i).toNat)
 case atStart=>exact ⟨0,aao _,rfl,hb0,BMap.same (fun z=>by simp) BM0,aab (by simp)⟩
 case round =>
  clear BM0 hb0;obtain ⟨k,hkn,rfl,hb,BM,hN⟩:=hrel;by_cases hlt:k<l.length
  ·obtain ⟨x,hx⟩:∃ x,Hid (l[k]?=some x):=⟨_,aab (aac hlt)⟩
   obtain ⟨b,off,rfl,hbb,c0⟩:=jq (hA.below hb) hlt hx.out;have hxi:=hi x (aam hx.out);have hwf:(Lit.int .i64 x).wf=true:=Bool.and_eq_true_iff.2 ⟨decide_eq_true hxi.1,decide_eq_true hxi.2⟩;have hlook:=BM.look underlying3 underlying4 underlying291 (by rfl) hwf;have q:=Rq x (some ⟨b,off,none⟩) l.length c bp wr (BP.below hb hlt0);by_cases hm:x∈l.take k
   ·have hno:=aab (Nh hx.out (.inl hm))
    rw [decide_eq_true hm] at hlook;clear hm q;go_wp2_with fail;go_ret;exact ⟨aI hno.out.symm,hb⟩
   ·rw [decide_eq_false hm] at hlook
    by_cases hr:0≤x∧x<(l.length:Int)
    ·have hN2:=aab (J8 hN.out.1 hx.out hm)
     have hN3:Hid (∀ y∈l.take (k+1),0≤y∧y<(l.length:Int)):=by
      intro y hy;obtain ⟨hk,rfl⟩:=aag.1 hx.out;rw [aaB hk] at hy;rcases aaL.1 hy with hy | hy
      ·exact hN.out.2 y hy
      ·obtain rfl:y=l[k]:=by simpa using hy
       exact hr
     have hS:Hid (∀ z,decide (z∈l.take (k+1))=if z=x then true else decide (z∈l.take k)):=by
      intro z;obtain ⟨hk,rfl⟩:=aag.1 hx.out;rw [aaB hk];by_cases hz:z=l[k]
      ·rw [if_pos hz];exact decide_eq_true (by rw [hz];exact List.mem_append_right _ (List.mem_singleton.2 rfl))
      ·rw [if_neg hz,abb,decide_eq_true_eq,decide_eq_true_eq,aaL]
       simp [hz]
     rw [decide_eq_true hr] at q;have hsz:=hb.size;clear hm hr;go_wp2_with fail;refine q.mono ?_;rintro e w2 ⟨rfl,rfl⟩;clear q;go_wp2_with (at_mapUpdate;refine zI rfl _ _ _ 291 rfl BM underlying3 underlying4 underlying291 rfl (by omega) x true rfl rfl hwf ?_;intro w6 hown6 hgr6)
     exact ⟨⟨k+1,by omega,by go_num,hb.grown hgr6 (by omega) (fun q e=>by cases e;omega),BMap.same hS.out hown6,aab ⟨hN2.out,hN3.out⟩⟩,by simp [intOf];omega⟩
    ·have hno:=aab (Nh hx.out (.inr hr))
     rw [decide_eq_false hr] at q;clear hm hr;go_wp2_with fail;refine q.mono ?_;rintro e w2 ⟨rfl,rfl⟩;clear q;go_wp2_with fail;go_ret;exact ⟨aI hno.out.symm,hb⟩
  ·have hyes:Hid (nS l=true):=by
    obtain ⟨h1,h2⟩:=hN.out;rw [aaH (by omega)] at h1 h2;show _=_;unfold nS;rw [aal,aau,decide_eq_true_eq];exact ⟨fun x hx=>decide_eq_true (h2 x hx),h1⟩
   go_wp2_with fail;go_ret;exact ⟨aI hyes.out.symm,hb⟩
theorem Nj (A:Option Addr) (c:Nat) (l:List Int) (W:World) (hA:Rd W W.heap.size 1 A l.length (ints l)) (hi:∀ x∈l,inI x) (hn:l.length≤1000) :
  Calls prog 179 #[.slice A l.length c] W (Ret (.bool (nS l)) W):=by
 have hmf:∀ (fn:Fn) (first cap:Array Value) (w:World),(Instr.makeFunc fn first cap).run prog w = .ok (.func fn first cap) w:=fun _ _ _ _=>rfl;have BP:=Blk.new W 35 #[.slice A l.length c] _ rfl;have hb:=bAl (aj W) (.cells #[.slice A l.length c] 35);have d0:=BP.cell 0;have q:=UO A c W.heap.size l _ ((hA.below hb).more hb.size) hi BP hn;go_enter func179,ntmps179;go_wp2_with fail;refine q.mono ?_;rintro e w2 ⟨rfl,b2⟩;clear q;go_wp2_with fail;go_ret;exact ⟨rfl,ah hb b2⟩
theorem ix5 (a b c d e:Int):∀ k:Nat,k<5→∃ m,[a,b,c,d,e][k]?=some m∧∀ w,(Instr.index 234 (.agg #[.int .i64 a,.int .i64 b,.int .i64 c,.int .i64 d,.int .i64 e]) (.int .i64 (k:Nat))).run prog w = .ok (.int .i64 m) w
 | 0,_=>⟨_,rfl,fun _=>by kernel_rfl⟩
 | 1,_=>⟨_,rfl,fun _=>by kernel_rfl⟩
 | 2,_=>⟨_,rfl,fun _=>by kernel_rfl⟩
 | 3,_=>⟨_,rfl,fun _=>by kernel_rfl⟩
 | 4,_=>⟨_,rfl,fun _=>by kernel_rfl⟩
 | k+5,h=>by omega
theorem Wi (t:Trn) (n:Int):t.fit n=(([(t.left.length:Int),t.right.length,t.rl.length,t.rr.length,t.salts.length].all (fun m=>!(m != n)))&&(decide (n≤64)&&(nS t.left&&nS t.right))):=by
 have e:∀ a:Int,(!(a != n))=decide (a=n):=fun a=>by rw [abb];simp
 simp only [Trn.fit,List.all_cons,List.all_nil,e,Bool.and_true,Bool.and_assoc]
theorem Bz (s:TS) (t:Trn) (n:Int) (W:World) (hT:TurnAt W W.heap.size s t) :
  Calls prog 103 #[.agg (s.cl t),.int .i64 n] W (Ret (.bool (t.fit n)) W):=by
 have BT:=Blk.new W 39 (s.cl t) _ rfl;have hb:=bAl (aj W) (.cells (s.cl t) 39);have hT1:=(hT.below hb).more hb.size;have hfe:=aab (Wi t n);generalize t.fit n=v at *;unfold TS.cl at *;have d0:=BT.cell 0;have d1:=BT.cell 1;have d2:=BT.cell 2;have d3:=BT.cell 3;have d4:=BT.cell 4;go_enter func103,ntmps103;go_upto_region 1 with fail;generalize W.alloc (.cells _ 39)=w1 at *;go_wp2_with fail;go_loopw [23] (fun i wr=>∃ k:Nat,k≤5∧i = .int .i64 k∧w1=wr∧Hid (∀ y∈[(t.left.length:Int),t.right.length,t.rl.length,t.rr.length,t.salts.length].take k,(y != n)=false)) (fun i _=>5 - (intOf i).toNat)
 case atStart=>exact ⟨0,by omega,rfl,rfl,aab (by simp)⟩
 case round =>
  obtain ⟨k,hk,rfl,rfl,hp⟩:=hrel;by_cases hlt:k<5
  ·obtain ⟨m,hm,hix⟩:=ix5 t.left.length t.right.length t.rl.length t.rr.length t.salts.length k hlt
   cases he:(m != n)
   ·have hp':=aab (wQ hp.out hm he)
    clear hm;go_wp2_with fail;exact ⟨⟨k+1,by omega,by go_num,trivial,hp'⟩,by simp [intOf];omega⟩
   ·have hv:Hid (v=false):=by
     show _=_;rw [hfe.out,abt];exact .inl (abn.2 ⟨m,aam hm,by rw [he];simp⟩)
    clear hm;go_wp2_with fail;go_ret;exact ⟨aI hv.out.symm,hb⟩
  ·have hall:[(t.left.length:Int),t.right.length,t.rl.length,t.rr.length,t.salts.length].all (fun m=>!(m != n))=true:=by
    have:=hp.out
    rw [aaH (by simp;omega)] at this;exact aau.2 fun y hy=>by rw [this y hy];rfl
   have hv:Hid (v=(decide (n≤64)&&(nS t.left&&nS t.right))):=(by show _=_;rw [hfe.out,hall,aaM]);have hl:(t.left.length:Int)=n∧(t.right.length:Int)=n:=(by simp at hall;omega);by_cases h64:n≤64
   ·have q1:=Nj s.a0 s.c0 t.left w1 hT1.r0 hT1.i0 (by omega)
    rw [decide_eq_true h64,aaM] at hv;cases h1:nS t.left
    ·have hv2:Hid (v=false):=by show _=_;rw [hv.out,h1];rfl
     rw [h1] at q1;clear h1 hl hall;go_wp2_with fail;refine q1.mono ?_;rintro e w2 ⟨rfl,b2⟩;go_wp2_with fail;go_ret;exact ⟨aI hv2.out.symm,ah hb b2⟩
    ·have hv2:Hid (v=nS t.right):=by show _=_;rw [hv.out,h1];rfl
     rw [h1] at q1;have hl2:t.right.length≤1000:=(by omega);clear h1 hl hall;go_wp2_with fail;refine q1.mono ?_;rintro e w2 ⟨rfl,b2⟩;have e1:=(BT.below b2 BT.lt).cell 1;have q2:=Nj s.a1 s.c1 t.right w2 ((hT1.r1.below b2).more b2.size) hT1.i1 hl2;clear q1;go_wp2_with fail;refine q2.mono ?_;rintro e w3 ⟨rfl,b3⟩;go_wp2_with fail;go_ret;exact ⟨aI hv2.out.symm,ah (ah hb b2) b3⟩
   ·have hv2:Hid (v=false):=by show _=_;rw [hv.out,decide_eq_false h64];rfl
    clear hl hall;go_wp2_with fail;go_ret;exact ⟨aI hv2.out.symm,hb⟩
theorem J9 (x:Ltr) (W:World):Calls prog 204 #[.agg #[.int .i64 x.a0,.int .i64 x.b0,.int .i64 x.a1,.int .i64 x.b1,.int .i64 x.a2,.int .i64 x.b2]] W (Ret (.bool !x.good) W):=by
 have q:=rF x (W.alloc (.cells #[.int .i64 x.a0,.int .i64 x.b0,.int .i64 x.a1,.int .i64 x.b1,.int .i64 x.a2,.int .i64 x.b2] 63));have hb:=bAl (aj W) (.cells #[.int .i64 x.a0,.int .i64 x.b0,.int .i64 x.a1,.int .i64 x.b1,.int .i64 x.a2,.int .i64 x.b2] 63);have he:x.err=if x.good=true then 0 else 100:=rfl
 cases hg:x.good
 all_goals
  rw [hg] at he;simp at he;rw [he] at q;clear he hg;go_enter func204,ntmps204;go_wp2_with fail;refine q.mono ?_;rintro e w1 ⟨rfl,b1⟩;clear q;go_wp2_with fail;go_ret;exact ⟨rfl,ah hb b1⟩
theorem Fz (A:Option Addr) (n c:Nat) (l:List Ltr) (W:World) (hA:Rd W W.heap.size 6 A n (l.flatMap Ltr.cl)) (hn:n≤9223372036854775807) :
  Calls prog 252 #[.slice A n c,.func (.func 204) #[] #[]] W (Ret (.int .i64 (kH (fun x=>!x.good) l)) W):=by
 obtain rfl:l.length=n:=iR hA;go_enter func252,ntmps252;go_wp2_with fail;go_loopw [8] (fun i wr=>∃ k:Nat,k≤l.length∧i = .int .i64 k∧Below W.heap.size W wr∧Hid (∀ y∈l.take k,(!y.good)=false)) (fun i _=>l.length - (intOf i).toNat)
 case atStart=>exact ⟨0,aao _,rfl,aj _,aab (by simp)⟩
 case round =>
  obtain ⟨k,hkn,rfl,hb,hp⟩:=hrel;by_cases hlt:k<l.length
  ·obtain ⟨x,hx⟩:∃ x,Hid (l[k]?=some x):=⟨_,aab (aac hlt)⟩
   obtain ⟨b,off,rfl,hbb,c0,c1,c2,c3,c4,c5⟩:=jS (hA.below hb) hlt hx.out;have q:=J9 x wr;cases hg:(!x.good)
   ·have hp':=aab (wQ (p:=fun x:Ltr=>!x.good) hp.out hx.out hg)
    rw [hg] at q;clear hg;go_wp2_with fail;refine q.mono ?_;rintro e w1 ⟨rfl,b1⟩;clear q;go_wp2_with fail;exact ⟨⟨k+1,by omega,by go_num,ah hb b1,hp'⟩,by simp [intOf];omega⟩
   ·have hres:=aab (yu (p:=fun x:Ltr=>!x.good) hp.out hx.out hg)
    rw [hg] at q;clear hg;go_wp2_with fail;refine q.mono ?_;rintro e w1 ⟨rfl,b1⟩;clear q;go_wp2_with fail;go_ret;exact ⟨eX hres.out.symm,ah hb b1⟩
  ·have hres:Hid (kH (fun x:Ltr=>!x.good) l = -1):=aab (oH (by have:=hp.out;rwa [aaH (by omega)] at this))
   go_wp2_with fail;go_ret;exact ⟨eX hres.out.symm,hb⟩
theorem zJ (A:Option Addr) (n c:Nat) (l:List Ltr) (W:World) (hA:Rd W W.heap.size 6 A n (l.flatMap Ltr.cl)) (hn:n≤9223372036854775807) :
  Calls prog 199 #[.slice A n c,.func (.func 204) #[] #[]] W (Ret (.bool !(l.all Ltr.good)) W):=by
 have q:=Fz A n c l W hA hn;have hg:=uY (p:=fun x:Ltr=>!x.good) (l:=l);rw [show l.any (fun x=>!x.good)=!l.all Ltr.good by rw [List.all_eq_not_any_not,Bool.not_not]] at hg;generalize kH (fun x:Ltr=>!x.good) l=i at *;cases hall:(!(l.all Ltr.good))
 all_goals
  rw [hall] at hg;have hg':=aab hg;have h1:=hg;simp at h1;clear hg hall;go_enter func199,ntmps199;go_wp2_with fail;refine q.mono ?_;rintro e w1 ⟨rfl,b1⟩;clear q;go_wp2_with fail;go_ret;exact ⟨by first | rfl | exact aI hg'.out,b1⟩
theorem lL (A:Option Addr) (n c:Nat) (l:List Ltr) (W:World) (hA:Rd W W.heap.size 6 A n (l.flatMap Ltr.cl)) (hn:n≤9223372036854775807) :
  Calls prog 139 #[.slice A n c] W (Ret (.bool (l.all Ltr.good)) W):=by
 have q:=zJ A n c l W hA hn;go_enter func139,ntmps139;go_wp2_with fail;refine q.mono ?_;rintro e w1 ⟨rfl,b1⟩;clear q;go_wp2_with fail;go_ret;exact ⟨aI (by simp),b1⟩
def qH (t:Trn):Int:=if t.fit (t.left.length:Int)=true then 0 else 140
def Trn.wayN (t:Trn) (k:Nat):List Int:=uS ((t.left.map Int.toNat).take k) (t.right.take k) (List.replicate t.left.length 0)
def Ru (t:Trn) (w:World) (r:Ending) (w':World):Prop :=
 Below w.heap.size w w'∧(qH t≠0→r = .returned (.tuple #[.slice none 0 0,.int .i64 (qH t)])) ∧
 (qH t=0→∃ g,r = .returned (.tuple #[.slice (some ⟨g,0,none⟩) t.left.length t.left.length,.int .i64 0])∧w.heap.size≤g∧Blk w' g 3 (ints t.way).toArray)
end
end Go.Proofs.YthbibbkbaphpkaaGreatDoor

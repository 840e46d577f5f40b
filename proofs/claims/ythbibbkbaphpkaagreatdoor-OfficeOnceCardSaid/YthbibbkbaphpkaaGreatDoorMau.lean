/- office.Check: two of its closures; walked. -/
import Derived.Test.YthbibbkbaphpkaaGreatDoorMao
import Derived.Test.YthbibbkbaphpkaaGreatDoorMap
import Derived.Test.YthbibbkbaphpkaaGreatDoorMat
set_option maxHeartbeats 16000000
set_option maxRecDepth 1000000
namespace Go.Proofs.YthbibbkbaphpkaaGreatDoor
open _root_.Go.Proofs.Tryz
open Go Go.RowKit
theorem Xm (ob:Nat) (no sec:Int) (v2 v3:Value) (W:World) (BO:Blk W ob 25 #[.int .i64 no,.int .i64 sec,v2,v3]) :
  Calls prog 77 #[.pointer (some ⟨ob,0,none⟩)] W (Ret (.bool (decide (0≤no∧no<24)&&iO sec)) W):=by
 have c0:W.cell? ⟨ob,0,none⟩=some (.int .i64 no):=BO.cell 0;have c1:W.cell? ⟨ob,1,none⟩=some (.int .i64 sec):=BO.cell 1;obtain ⟨v,hv⟩:∃ v,Hid (v=(decide (0≤no∧no<24)&&iO sec)):=⟨_,aab rfl⟩
 rw [←hv.out];have hg:∀ b,b=(decide (0≤no∧no<24)&&iO sec)→Hid (v=b):=fun b h=>aab (hv.out.trans h.symm);replace hg:=aab hg;go_enter func77,ntmps77;by_cases a1:0≤no
 rotate_left 1
 ·have hv2:=hg.out false (by rw [decide_eq_false (fun h=>a1 h.1)];rfl)
  have a1':no<0:=by omega
  go_wp2_with fail;go_ret;exact ⟨aI hv2.out.symm,aj W⟩
 by_cases a2:no<24
 rotate_left 1
 ·have hv2:=hg.out false (by rw [decide_eq_false (fun h=>a2 h.2)];rfl)
  have a2':24≤no:=by omega
  go_wp2_with fail;go_ret;exact ⟨aI hv2.out.symm,aj W⟩
 by_cases a3:0<sec
 rotate_left 1
 ·have hv2:=hg.out false (by unfold iO;simp;omega)
  have a3':sec≤0:=by omega
  go_wp2_with fail;go_ret;exact ⟨aI hv2.out.symm,aj W⟩
 by_cases a4:sec<1073741789
 ·have hv2:=hg.out true (by unfold iO;simp;omega)
  go_wp2_with fail;go_ret;exact ⟨aI hv2.out.symm,aj W⟩
 ·have hv2:=hg.out false (by unfold iO;simp;omega)
  have a4':1073741789≤sec:=by omega
  go_wp2_with fail;go_ret;exact ⟨aI hv2.out.symm,aj W⟩
theorem SK (ob:Nat) (no sec:Int) (A:Option Addr) (c:Nat) (l:List Lnk) (vs:List Value) (v3:Value) (W:World) (BO:Blk W ob 25 #[.int .i64 no,.int .i64 sec,.slice A l.length c,v3]) (hA:LksAt W W.heap.size A l vs) (hn:l.length≤1000000) (hcap:l.length≤c) (hG:ShaG W) :
  Calls prog 74 #[.pointer (some ⟨ob,0,none⟩)] W (Ret (.bool (decide (chainE l=0)&&l.all (fun x=>decide (x.node=no)))) W):=by
 have hmf:∀ (fn:Fn) (first cap:Array Value) (w:World),(Instr.makeFunc fn first cap).run prog w = .ok (.func fn first cap) w:=fun _ _ _ _=>rfl;have c2:W.cell? ⟨ob,2,none⟩=some (.slice A l.length c):=BO.cell 2;have q:=IK A c l vs W hA hn hcap hG
 have hall:Hid (l.all (fun x=>decide (x.node=no))=!(l.any (fun x=>x.node != no))):=by
  show _=_
  have hfun:(fun x:Lnk=>!(decide (x.node=no)))=(fun x=>x.node != no):=by
   funext x
   rw [abb];simp [bne]
  rw [List.all_eq_not_any_not,hfun]
 obtain ⟨E,hE⟩:∃ E,chainE l=E:=⟨_,rfl⟩
 rw [hE] at q ⊢;rw [hall.out];clear hall hE;go_enter func74,ntmps74;by_cases h0:E=0
 ·subst h0
  go_wp2_with fail;refine q.mono ?_;rintro e w2 ⟨rfl,b2⟩;have BO2:=BO.below b2 BO.lt;have c2':w2.cell? ⟨ob,2,none⟩=some (.slice A l.length c):=BO2.cell 2;have q2:=Dv A c l vs ob no w2 ((hA.below b2).more b2.size) hn (BO2.cell 0) BO2.lt;clear q c2;obtain ⟨B,hB⟩:∃ B,Hid (l.any (fun x=>x.node != no)=B):=⟨_,aab rfl⟩
  rw [hB.out] at q2;go_wp2_with fail;refine q2.mono ?_;rintro e w3 ⟨rfl,b3⟩;go_wp2_with fail;go_ret;exact ⟨aI (by simp;exact hB.out.symm),ah b2 b3⟩
 ·have he:decide (E=0)=false:=decide_eq_false h0
  go_wp2_with fail;refine q.mono ?_;rintro e w2 ⟨rfl,b2⟩;go_wp2_with fail;go_ret;exact ⟨by rw [he];rfl,b2⟩
theorem U7 (ob:Nat) (no sec:Int) (v2:Value) (A:Option Addr) (c:Nat) (l:List (List Nat)) (W:World) (BO:Blk W ob 25 #[.int .i64 no,.int .i64 sec,v2,.slice A l.length c]) (hA:Rd W W.heap.size 32 A l.length (l.flatMap ag)) (hok:∀ x∈l,dL x) (hn:l.length≤1000000) :
  Calls prog 73 #[.pointer (some ⟨ob,0,none⟩)] W (Ret (.bool (Dw l&&decide (l.length≤4096))) W):=by
 have c3:W.cell? ⟨ob,3,none⟩=some (.slice A l.length c):=BO.cell 3;obtain ⟨v,hv⟩:∃ v,Hid (v=(Dw l&&decide (l.length≤4096))):=⟨_,aab rfl⟩
 rw [←hv.out];go_enter func73,ntmps73;go_wp2_with fail;go_loopw [6] (fun i wr=>∃ k:Nat,k≤l.length∧i = .int .i64 k∧Below W.heap.size W wr∧Hid (∀ j,j<k→(decide (j=0)||bef (l.getD (j - 1) []) (l.getD j []))=true)) (fun i _=>l.length - (intOf i).toNat)
 case atStart=>exact ⟨0,aao _,rfl,aj W,aab (fun j h=>by omega)⟩
 case round =>
  clear c3;obtain ⟨k,hkn,rfl,hb,hF⟩:=hrel;by_cases hlt:k<l.length
  ·have i0:(0:Int)≤(k:Int):=by omega
   have i1:(k:Int)<(l.length:Int):=(by omega);cases k with
   | zero =>
    have KS:Hid (∀ w',Below wr.heap.size wr w'→True):=aab (fun _ _=>trivial);have h01:=aab (show 0+1≤l.length from hlt)
    have hF2:Hid (∀ j,j<0+1→(decide (j=0)||bef (l.getD (j - 1) []) (l.getD j []))=true):=aab (fun j hj=>by
     have h:j=0:=Nat.lt_one_iff.1 hj;subst h;rfl)
    go_upto_region 4 with fail;refine aK (f:=16) KS [(0,1),(1,1),(2,1),(3,1),(4,1),(5,1),(6,1),(7,1),(8,1),(9,1),(10,1),(11,1),(12,1),(13,1),(14,0),(15,1),(16,3)] ?_;simp only [bf,aap,aar]
    iterate 3 refine ak ?_
    iterate 11 refine dC ?_
    refine au (fun K hK=>?_);go_simp;refine aH hK KS ?_;clear hK K;refine dC ?_;refine aN ?_
    first | simp only [aak] | simp only [aat,aak]
    go_wp2_with fail;refine NoPanic.normal ?_;go_wp2_with fail;exact ⟨⟨0+1,h01.out,by go_num,bDr hb,hF2⟩,by simp [intOf];omega⟩
   | succ m =>
    obtain ⟨x,hx⟩:∃ x,l[m]?=some x:=⟨_,aac (by omega)⟩
    obtain ⟨y,hy⟩:∃ y,l[m+1]?=some y:=⟨_,aac hlt⟩
    have hxo:=hok x (aam hx);have hyo:=hok y (aam hy);obtain ⟨b1,o1,rfl,l1,k1⟩:=zf (hA.below hb) hok (by omega) hx;obtain ⟨b2,o2,e2,l2,k2⟩:=zf (hA.below hb) hok hlt hy;injection e2 with e2
    injection e2 with e2 e3
    subst e2;subst e3;have hbz:=hb.size;have BO2:=BO.below hb BO.lt;have hcb:=aab (Bq x y (by rw [hxo.1,hyo.1]));have q:Hid (∀ w',Calls prog 59 #[.agg (ag x).toArray,.agg (ag y).toArray] w' (Ret (.int .i64 (nY x y)) w')):=aab (fun w'=>uX x y w' hxo hyo)
    have KS:Hid (∀ w',Below wr.heap.size wr w'→((Instr.loadAt 29 (.pointer (some ⟨b1,o1+m*32,none⟩))).run prog w' = .ok (.agg (ag x).toArray) w'∧(Instr.loadAt 29 (.pointer (some ⟨b1,o1+(m+1)*32,none⟩))).run prog w' = .ok (.agg (ag y).toArray) w'∧w'.cell? ⟨ob,3,none⟩=some (.slice (some ⟨b1,o1,none⟩) l.length c))) :=
     aab (fun w' h=>⟨fF (fun j u hj=>(h.cell (p:=⟨b1,o1+m*32+j,none⟩) (by show b1<_;omega)).trans (k1 j u hj)) hxo.1,fF (fun j u hj=>(h.cell (p:=⟨b1,o1+(m+1)*32+j,none⟩) (by show b1<_;omega)).trans (k2 j u hj)) hyo.1,(BO2.below h BO2.lt).cell 3⟩)
    have hst:Hid ((decide (m+1=0)||bef (l.getD (m+1 - 1) []) (l.getD (m+1) []))=bef x y):=aab (by
     rw [Nat.add_sub_cancel,aS hx,aS hy];simp)
    have m1:(0:Int)≤(m:Int):=(by omega);have m2:(m:Int)<(l.length:Int):=(by omega);have m3:IntKind.i64.wrap (m:Int)=(m:Int):=(by rw [IntKind.wrap_i64];omega);have m4:(0:Int)≤(m:Int)+1:=(by omega);have m5:(m:Int)+1<(l.length:Int):=(by omega);have m6:((m:Int)+1).toNat=m+1:=(by omega);generalize nY x y=cv at *;clear k1 k2 hx hy;go_upto_region 4 with fail;refine aK (f:=16) KS [(0,1),(1,1),(2,1),(3,1),(4,2),(5,1),(6,1),(7,1),(8,2),(9,1),(10,2),(11,1),(12,1),(13,2),(14,0),(15,1),(16,3)] ?_;simp only [bf,aap,aar]
    iterate 4 refine ak ?_
    refine ax ?_
    iterate 3 refine ak ?_
    refine ax (v:=?vq1) (hv:=?hq1) ?_;case hq1=>(intro w hSw;(first | refine (af rfl rfl hSw).trans ?_ | refine (af rfl rfl hSw.1).trans ?_ | refine (af rfl rfl hSw.2.1).trans ?_ | refine (af rfl rfl hSw.2.2.1).trans ?_ | refine (af rfl rfl hSw.2).trans ?_ | refine (af rfl rfl hSw.2.2).trans ?_);with_reducible rfl)
    refine ak ?_;refine ax ?_
    iterate 2 refine ak ?_
    refine ax (v:=?vq2) (hv:=?hq2) ?_;case hq2=>(intro w hSw;(first | refine (af rfl rfl hSw).trans ?_ | refine (af rfl rfl hSw.1).trans ?_ | refine (af rfl rfl hSw.2.1).trans ?_ | refine (af rfl rfl hSw.2.2.1).trans ?_ | refine (af rfl rfl hSw.2).trans ?_ | refine (af rfl rfl hSw.2.2).trans ?_);with_reducible rfl)
    refine au (fun K hK=>?_);go_simp;(first | (go_at_call 59;(with_reducible refine (q.out _).mono ?_);rintro e w6 ⟨rfl,b6⟩;have B6:Below wr.heap.size wr w6:=ah (bDr (aj _)) b6) | skip);refine aH hK KS ?_;clear hK K;refine ak ?_;refine aN ?_
    first | simp only [aak] | simp only [aat,aak]
    replace hb:=ah hb B6;clear KS q B6 b6;by_cases hc:0≤cv
    ·have hv2:Hid (v=false):=by
      show _=_;rw [hv.out];rw [abt];refine .inl ?_;unfold Dw;refine abn.2 ⟨m+1,aaE.2 hlt,?_⟩;rw [hst.out];intro h
      have:=hcb.out.2 h
      omega
     go_wp2_with fail;refine NoPanic.normal ?_;go_wp2_with fail;go_ret;exact ⟨aI hv2.out.symm,hb⟩
    ·have hc2:cv<0:=by omega
     have hF2:Hid (∀ j,j<m+1+1→(decide (j=0)||bef (l.getD (j - 1) []) (l.getD j []))=true):=aab (fun j hj=>by
      rcases aa0 j (m+1) with h | h
      ·exact hF.out j h
      ·obtain rfl:j=m+1:=by omega
       rw [hst.out];exact hcb.out.1 hc2)
     go_wp2_with fail;refine NoPanic.normal ?_;go_wp2_with fail;exact ⟨⟨m+1+1,by omega,by go_num,hb,hF2⟩,by simp [intOf];omega⟩
  ·have hv2:Hid (v=decide (l.length≤4096)):=by
    show _=_;rw [hv.out]
    have hr:Dw l=true:=by
     unfold Dw;rw [aau];intro j hj;exact hF.out j (by have:=aaE.1 hj;omega)
    rw [hr,aaM]
   have c4:wr.cell? ⟨ob,3,none⟩=some (.slice A l.length c):=(BO.below hb BO.lt).cell 3;by_cases h4:(l.length:Int)≤4096
   ·have hv3:Hid (v=true):=aab (hv2.out.trans (decide_eq_true (by omega)))
    go_wp2_with fail;go_ret;exact ⟨aI hv3.out.symm,hb⟩
   ·have hv3:Hid (v=false):=aab (hv2.out.trans (decide_eq_false (by omega)))
    have h5:(4096:Int)<(l.length:Int):=(by omega);go_wp2_with fail;go_ret;exact ⟨aI hv3.out.symm,hb⟩
def uG (ob:Nat) (o:Ofc):List Ask:=[⟨77,#[.pointer (some ⟨ob,0,none⟩)],decide (0≤o.no∧o.no<24)&&iO o.secret,490⟩,⟨74,#[.pointer (some ⟨ob,0,none⟩)],decide (chainE o.chain=0)&&o.chain.all (fun x=>decide (x.node=o.no)),490⟩,⟨73,#[.pointer (some ⟨ob,0,none⟩)],Dw o.used&&decide (o.used.length≤4096),490⟩]
theorem vC (ob:Nat) (o:Ofc):(∀ x∈uG ob o,x.ok=true)↔o.good=true:=by
 unfold uG Ofc.good;simp only [aaq,aaw,or_false,forall_eq_or_imp,forall_eq,aal]
theorem PN {ob:Nat} {o:Ofc} (h:∃ x∈uG ob o,x.ok=false):mX (uG ob o)=490:=by
 obtain ⟨x,hx,hb⟩:=h;obtain ⟨k,hk⟩:=List.getElem?_of_mem hx;unfold uG mX mX mX mX
 split
 ·split
  ·split
   ·exfalso
    rename_i h1 h2 h3
    have:=(vC ob o).1
    unfold uG at hx;simp only [aaq,aaw,or_false] at hx;rcases hx with rfl | rfl | rfl
    ·rw [h1] at hb;cases hb
    ·rw [h2] at hb;cases hb
    ·rw [h3] at hb;cases hb
   ·rfl
  ·rfl
 ·rfl
theorem sO (o:Ofc) (A Au:Option Addr) (c cu:Nat) (vs:List Value) (W:World) (hA:LksAt W W.heap.size A o.chain vs) (hn:o.chain.length≤1000000) (hcap:o.chain.length≤c) (hU:Rd W W.heap.size 32 Au o.used.length (o.used.flatMap ag)) (hok:∀ x∈o.used,dL x) (hnu:o.used.length≤1000000) (hG:ShaG W) :
  Calls prog 16 #[.agg #[.int .i64 o.no,.int .i64 o.secret,.slice A o.chain.length c,.slice Au o.used.length cu]] W (Ret (.int .i64 o.err) W):=by
 have hmf:∀ (fn:Fn) (first cap:Array Value) (w:World),(Instr.makeFunc fn first cap).run prog w = .ok (.func fn first cap) w:=fun _ _ _ _=>rfl;go_enter_defers func16,ntmps16
 go_wp2_with fail;have BO:Blk (((W.alloc (.cells #[.int .i64 o.no,.int .i64 o.secret,.slice A o.chain.length c,.slice Au o.used.length cu] 25)).alloc (.cells #[.int .i64 0] 42)).alloc (.cells #[.func (.func 77) #[] #[.pointer (some ⟨W.heap.size,0,none⟩)],.int .i64 490,.func (.func 74) #[] #[.pointer (some ⟨W.heap.size,0,none⟩)],.int .i64 490,.func (.func 73) #[] #[.pointer (some ⟨W.heap.size,0,none⟩)],.int .i64 490] 110)) W.heap.size 25 #[.int .i64 o.no,.int .i64 o.secret,.slice A o.chain.length c,.slice Au o.used.length cu]:=((Blk.new W _ _ _ rfl).alloc _).alloc _;have B1:Blk (((W.alloc (.cells #[.int .i64 o.no,.int .i64 o.secret,.slice A o.chain.length c,.slice Au o.used.length cu] 25)).alloc (.cells #[.int .i64 0] 42)).alloc (.cells #[.func (.func 77) #[] #[.pointer (some ⟨W.heap.size,0,none⟩)],.int .i64 490,.func (.func 74) #[] #[.pointer (some ⟨W.heap.size,0,none⟩)],.int .i64 490,.func (.func 73) #[] #[.pointer (some ⟨W.heap.size,0,none⟩)],.int .i64 490] 110)) (W.heap.size+1) 42 #[.int .i64 0]:=(Blk.new _ _ _ _ (by simp)).alloc _;have B2:Blk (((W.alloc (.cells #[.int .i64 o.no,.int .i64 o.secret,.slice A o.chain.length c,.slice Au o.used.length cu] 25)).alloc (.cells #[.int .i64 0] 42)).alloc (.cells #[.func (.func 77) #[] #[.pointer (some ⟨W.heap.size,0,none⟩)],.int .i64 490,.func (.func 74) #[] #[.pointer (some ⟨W.heap.size,0,none⟩)],.int .i64 490,.func (.func 73) #[] #[.pointer (some ⟨W.heap.size,0,none⟩)],.int .i64 490] 110)) (W.heap.size+1+1) 110 #[.func (.func 77) #[] #[.pointer (some ⟨W.heap.size,0,none⟩)],.int .i64 490,.func (.func 74) #[] #[.pointer (some ⟨W.heap.size,0,none⟩)],.int .i64 490,.func (.func 73) #[] #[.pointer (some ⟨W.heap.size,0,none⟩)],.int .i64 490]:=Blk.new _ _ _ _ (by simp)
 have hb:Below W.heap.size W (((W.alloc (.cells #[.int .i64 o.no,.int .i64 o.secret,.slice A o.chain.length c,.slice Au o.used.length cu] 25)).alloc (.cells #[.int .i64 0] 42)).alloc (.cells #[.func (.func 77) #[] #[.pointer (some ⟨W.heap.size,0,none⟩)],.int .i64 490,.func (.func 74) #[] #[.pointer (some ⟨W.heap.size,0,none⟩)],.int .i64 490,.func (.func 73) #[] #[.pointer (some ⟨W.heap.size,0,none⟩)],.int .i64 490] 110)):=bAl (bAl (bAl (aj W) _) _) _;generalize (((W.alloc (.cells #[.int .i64 o.no,.int .i64 o.secret,.slice A o.chain.length c,.slice Au o.used.length cu] 25)).alloc (.cells #[.int .i64 0] 42)).alloc (.cells #[.func (.func 77) #[] #[.pointer (some ⟨W.heap.size,0,none⟩)],.int .i64 490,.func (.func 74) #[] #[.pointer (some ⟨W.heap.size,0,none⟩)],.int .i64 490,.func (.func 73) #[] #[.pointer (some ⟨W.heap.size,0,none⟩)],.int .i64 490] 110))=w3 at *;have hR:Rd w3 w3.heap.size 2 (some ⟨W.heap.size+1+1,0,none⟩) (uG W.heap.size o).length ((uG W.heap.size o).flatMap Ask.cl):=⟨rfl,fun _=>⟨_,0,rfl,B2.lt,fun j u hu=>by rw [aax,B2.cell,aaG];exact hu⟩⟩
 have q:=wW _ 3 (uG W.heap.size o) w3 hR (by show 3≤1000;omega) (fun k a ha _ w' h=>by
  have BO2:=BO.below h BO.lt;have hb2:=ah hb h
  match k,ha with
  | 0,ha=>injection ha with ha;subst ha;exact Xm W.heap.size o.no o.secret _ _ w' BO2
  | 1,ha=>injection ha with ha;subst ha;exact SK W.heap.size o.no o.secret A c o.chain vs _ w' BO2 ((hA.below hb2).more hb2.size) hn hcap (hG.below hb2)
  | 2,ha=>injection ha with ha;subst ha;exact U7 W.heap.size o.no o.secret _ Au cu o.used w' BO2 ((hU.below hb2).more hb2.size) hok hnu
  | k+3,ha=>cases ha) (fun a ha args w=>by
  unfold uG at ha;simp only [aaq,aaw,or_false] at ha;rcases ha with rfl | rfl | rfl
  ·exact enters_of func77 (by kernel_rfl) rfl args w
  ·exact enters_of func74 (by kernel_rfl) rfl args w
  ·exact enters_of func73 (by kernel_rfl) rfl args w)
 refine q.mono ?_;rintro r w4 ⟨b4,hr⟩;have B4:=B1.below b4 B1.lt;have hc:w4.cell? ⟨W.heap.size+1,0,none⟩=some (.int .i64 0):=B4.cell 0;have hz:w4.frozen? ⟨W.heap.size+1,0,none⟩=false:=B4.frozen 0;have hc2:∀ u,(w4.setCell ⟨W.heap.size+1,0,none⟩ u).cell? ⟨W.heap.size+1,0,none⟩=some u:=fun u=>World.cell?_setCell_same _ _ _ hc;have hb2:Hid (∀ u,Below W.heap.size W (w4.setCell ⟨W.heap.size+1,0,none⟩ u)):=aab (fun u=>zQ7 (ah hb b4) (show W.heap.size≤W.heap.size+1 by omega) u);clear q;rcases hr with ⟨h0,rfl⟩ | ⟨h0,rfl⟩
 ·have H0:Hid (o.err=0):=aab (by unfold Ofc.err;rw [if_pos ((vC _ o).1 h0)])
  clear h0;go_wp2_with fail;refine Pq _ _ (.int .i64 0) (by simp [results,results16,go_sem,hc2]) ⟨by rw [H0.out],hb2.out _⟩
 ·have hne:o.err=490:=by
   unfold Ofc.err
   rw [if_neg (fun h=>by
    obtain ⟨x,hx,hb⟩:=h0
    have:=(vC W.heap.size o).2 h x hx
    rw [hb] at this;cases this)]
  rw [PN h0];refine Ku _ 490 0 _ (.int .i64 490) hc hz (by simp [results,results16,go_sem,hc2]) ⟨by rw [hne],hb2.out _⟩
def uo (no sec:Int):Ofc:=⟨no,sec,[],[]⟩
def IL (no sec:Int):Array Value:=if (uo no sec).err=0 then #[.int .i64 no,.int .i64 sec,.slice none 0 0,.slice none 0 0] else #[.int .i64 0,.int .i64 0,.slice none 0 0,.slice none 0 0]
theorem KP (no sec:Int) (W:World) (hG:ShaG W):Calls prog 11 #[.int .i64 no,.int .i64 sec] W (Ret (.tuple #[.agg (IL no sec),.int .i64 (uo no sec).err]) W):=by
 have BO:=Blk.new W 25 #[.int .i64 no,.int .i64 sec,.slice none 0 0,.slice none 0 0] _ rfl;have hb:=bAl (aj W) (.cells #[.int .i64 no,.int .i64 sec,.slice none 0 0,.slice none 0 0] 25);go_enter func11,ntmps11;go_upto_region 2 with fail;generalize W.alloc (.cells #[.int .i64 no,.int .i64 sec,.slice none 0 0,.slice none 0 0] 25)=w1 at *;have q:=sO (uo no sec) none none 0 0 [] w1 ⟨⟨rfl,fun h=>absurd h (by simp [uo])⟩,rfl,fun k x hx=>by simp [uo] at hx,fun x hx=>by cases hx⟩ (by simp [uo]) (aad _) ⟨rfl,fun h=>absurd h (by simp [uo])⟩ (fun x hx=>by cases hx) (by simp [uo]) (hG.below hb);have c0:=BO.cell 0;have c1:=BO.cell 1;have c2:=BO.cell 2;have c3:=BO.cell 3;obtain ⟨E,hE⟩:∃ E,(uo no sec).err=E:=⟨_,rfl⟩
 obtain ⟨C,hC0⟩:∃ C,IL no sec=C:=⟨_,rfl⟩
 have hC:Hid (C=if E=0 then #[.int .i64 no,.int .i64 sec,.slice none 0 0,.slice none 0 0] else #[.int .i64 0,.int .i64 0,.slice none 0 0,.slice none 0 0]):=aab (by rw [←hC0,←hE];rfl);rw [hE] at q;have hE3:=aab hE;have hC3:=aab hC0;clear hE hC0;unfold uo at q;dsimp only [List.length_nil] at q;go_wp2_with fail;refine q.mono ?_;rintro e w2 ⟨rfl,b2⟩;clear q c0 c1 c2 c3;have BO2:=BO.below b2 BO.lt;have hb2:=ah hb b2;have c0:=BO2.cell 0;have c1:=BO2.cell 1;have c2:=BO2.cell 2;have c3:=BO2.cell 3;have z0:=BO2.frozen 0;have z1:=BO2.frozen 1;have z2:=BO2.frozen 2;have z3:=BO2.frozen 3;by_cases h0:E=0
 ·subst h0
  have NF:=((((BO2.set_ 0 (.int .i64 no)).set_ 1 (.int .i64 sec)).set_ 2 (.slice none 0 0)).set_ 3 (.slice none 0 0))
  have f0:=NF.cell 0;have f1:=NF.cell 1;have f2:=NF.cell 2;have f3:=NF.cell 3;have fb:=zQ7 (zQ7 (zQ7 (zQ7 hb2 (p:=⟨W.heap.size,0,none⟩) (aad _) (.int .i64 no)) (p:=⟨W.heap.size,1,none⟩) (aad _) (.int .i64 sec)) (p:=⟨W.heap.size,2,none⟩) (aad _) (.slice none 0 0)) (p:=⟨W.heap.size,3,none⟩) (aad _) (.slice none 0 0);go_wp2_with fail;exact bodyPost_ret (v := .tuple #[.agg #[.int .i64 no,.int .i64 sec,.slice none 0 0,.slice none 0 0],.int .i64 0]) (by simp [results,results11,go_sem,f0,f1,f2,f3]) rfl ⟨by rw [hC3.out,hE3.out,hC.out,if_pos trivial],fb⟩
 ·
  have NF:=((((BO2.set_ 0 (.int .i64 0)).set_ 1 (.int .i64 0)).set_ 2 (.slice none 0 0)).set_ 3 (.slice none 0 0))
  have f0:=NF.cell 0;have f1:=NF.cell 1;have f2:=NF.cell 2;have f3:=NF.cell 3;have fb:=zQ7 (zQ7 (zQ7 (zQ7 hb2 (p:=⟨W.heap.size,0,none⟩) (aad _) (.int .i64 0)) (p:=⟨W.heap.size,1,none⟩) (aad _) (.int .i64 0)) (p:=⟨W.heap.size,2,none⟩) (aad _) (.slice none 0 0)) (p:=⟨W.heap.size,3,none⟩) (aad _) (.slice none 0 0);go_wp2_with fail;exact bodyPost_ret (v := .tuple #[.agg #[.int .i64 0,.int .i64 0,.slice none 0 0,.slice none 0 0],.int .i64 E]) (by simp [results,results11,go_sem,f0,f1,f2,f3]) rfl ⟨by rw [hC3.out,hE3.out,hC.out,if_neg h0],fb⟩
theorem uj {P:Program} (w:World) (dT sT ty elem:TypeId) (sz g o dLen dCap:Nat) (sb so sLen sCap:Nat) (cur:Array Value) (t:TypeId) (cs:List Value)
  (hu:P.underlying dT=some (.slice elem)) (hs:(P.info? elem).map (·.size)=some sz)
  (hg:w.heap[g]?=some (.cells cur t (0,0))) (hn:cs.length=Nat.min sLen dLen*sz)
  (hsrc:∀ j v,cs[j]?=some v→w.cell? ⟨sb,so+j,none⟩=some v) (hfit:o+cs.length≤cur.size) (h1:∀ v∈cs,v.oneCell'=true) :
  (Builtin.copy_ #[dT,sT] ty #[.slice (some ⟨g,o,none⟩) dLen dCap,.slice (some ⟨sb,so,none⟩) sLen sCap]).run P w =
   .ok (goInt (Nat.min sLen dLen)) (w.setRow g (cur.toList.take o++cs++cur.toList.drop (o+cs.length)).toArray):=by
 have hl:=run_loadCells_list (P:=P) w ⟨sb,so,none⟩ cs (fun j v hj=>by rw [Addr.add_lit];exact hsrc j v hj);have hst:=run_storeCells_at P g o t cs 0 cur w hg (by simpa using hfit) h1;cases hq:P.info? elem with
 | none=>simp [hq] at hs
 | some i =>
  have hi:i.size=sz:=by simpa [hq] using hs
  simp [Builtin.copy_,run_underlying hu,Builtin.lenOf,Builtin.firstCells,sizeOf,typeInfo,hq,hi,←hn,hl,hst]
def ou (cur xs:List Value) (a s:Nat):List Value:=cur.take (a+s)++xs.drop a++cur.drop (a+s+(xs.drop a).length)
def xq (cur ys:List Value) (a:Nat):List Value:=cur.take a++ys++cur.drop (a+ys.length)
theorem uH {cur xs:List Value} {a s b:Nat} (hx:xs.length=b) (ha:a≤b) (hl:b+s≤cur.length):(ou cur xs a s).length=cur.length:=by
 unfold ou;simp only [aan,aav,aa1];omega
theorem xu {cur ys:List Value} {a:Nat} (hl:a+ys.length≤cur.length):(xq cur ys a).length=cur.length:=by
 unfold xq;simp only [aan,aav,aa1];omega
theorem PO {cur xs ys:List Value} {a b s:Nat} (hx:cur.take b=xs) (ha:a≤b) (hl:b+s≤cur.length) (hy:ys.length=s) :
  (xq (ou cur xs a s) ys a).take (b+s)=xs.take a++ys++xs.drop a:=by
 have hxl:xs.length=b:=by rw [←hx,aav];omega
 have e1:(ou cur xs a s).take a=xs.take a:=by
  unfold ou;rw [aaZ,abm (by rw [aav];omega),List.take_take,←hx,List.take_take];congr 1;omega
 have e2:(ou cur xs a s).drop (a+s)=xs.drop a++cur.drop (a+s+(xs.drop a).length):=by
  unfold ou;rw [aaZ,List.drop_append_of_le_length (by rw [aav];omega),List.drop_of_length_le (by rw [aav];omega),aaJ]
 unfold xq;rw [e1,hy,e2,←aaZ,abm (by simp only [aan,aav,aa1];omega),aaH (by simp only [aan,aav,aa1];omega)]
theorem SL {cur xs ys:List Value} {a b s:Nat} (hx:cur.take a=xs.take a) (hxl:xs.length=b) (ha:a≤b) (hl:b+s≤cur.length) (hy:ys.length=s) :
  (ou (xq cur ys a) xs a s).take (b+s)=xs.take a++ys++xs.drop a:=by
 have e1:(xq cur ys a).take (a+s)=xs.take a++ys:=by
  unfold xq;rw [abm (by simp only [aan,aav];omega),aaH (by simp only [aan,aav];omega),hx]
 unfold ou;rw [e1,abm (by simp only [aan,aav,aa1];omega),aaH (by simp only [aan,aav,aa1];omega)]
end Go.Proofs.YthbibbkbaphpkaaGreatDoor

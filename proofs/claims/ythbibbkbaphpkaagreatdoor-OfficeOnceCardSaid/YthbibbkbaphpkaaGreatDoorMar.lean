/- sign.Sign, walked. -/
import Derived.Test.YthbibbkbaphpkaaGreatDoorMaq
import Derived.Test.YthbibbkbaphpkaaGreatDoorMao
set_option maxHeartbeats 16000000
set_option maxRecDepth 1000000
namespace Go.Proofs.YthbibbkbaphpkaaGreatDoor
open _root_.Go.Proofs.Tryz
section
open Go.RowKit
theorem U2 (a b:Nat) (ha:a<1073741789) (hb:b<1073741789) (W:World):Calls prog 177 #[.int .i64 a,.int .i64 b] W (Same (.int .i64 (((a:Int)+b) % 1073741789)) W):=by
 go_enter func177,ntmps177;go_wp2
 go_ret;exact ⟨rfl,rfl⟩
theorem Sm (a b:Nat) (ha:a<1073741789) (hb:b<1073741789) (W:World):Calls prog 178 #[.int .i64 a,.int .i64 b] W (Same (.int .i64 (a*b % Qn:Nat)) W):=by
 have k:=aab (zi a b);have m:=Xk ha hb;go_enter func178,ntmps178;go_wp2
 go_ret;exact ⟨eX (by rw [k.out]),rfl⟩
theorem IA (l:List Nb) (w:World) (hok:∀ x∈l,x.ok w w.heap.size) (hn:l.length≤100) :
  Calls prog 175 #[.slice (some ⟨w.heap.size,0,none⟩) l.length l.length] (w.alloc (.cells (l.map Nb.val).toArray 20)) (kL 1 (bZ (l.map Nb.it)).length (ag (bZ (l.map Nb.it))) (w.alloc (.cells (l.map Nb.val).toArray 20))):=by
 refine Ns _ l.length l.length l _ (Rd.new w _ _ 1 _ _ rfl (by simp)) (fun x hx=>?_) hn;have h:=hok x hx;cases x with
 | int n=>exact h
 | txt A c d=>exact ⟨(h.1.below (bAl (aj _) _)).more (by simp),h.2⟩
theorem U3 {E S E' S':Int} (h:E=E') (h':S=S'):Ending.returned (.tuple #[.agg #[.int .i64 E,.int .i64 S],.int .i64 0]) = .returned (.tuple #[.agg #[.int .i64 E',.int .i64 S'],.int .i64 0]):=by rw [h,h']
theorem U4 (s:Int) (hs:iO s=true) (A:Option Addr) (c:Nat) (b:List Nat) (W:World) (hA:Rd W W.heap.size 1 A b.length (ag b)) (hob:okB b) (h0:0<b.length) (hlen:b.length≤1000000) (hG:ShaG W) :
  Calls prog 101 #[.int .i64 s,.slice A b.length c] W (Ret (.tuple #[.agg #[.int .i64 (qR s b),.int .i64 (sJ s b)],.int .i64 0]) W):=by
 obtain ⟨s1,s2⟩:=rO hs;have is:inI s:=⟨by omega,by omega⟩
 obtain ⟨s,rfl⟩:=abB (show 0≤s by omega);have hK:=Sj s b;obtain ⟨K,hKe⟩:∃ K:Nat,zL s b=K:=⟨(zL s b).toNat,by omega⟩
 obtain ⟨P1,hP1⟩:∃ P,aJ 4 K=P:=⟨_,rfl⟩
 obtain ⟨P2,hP2⟩:∃ P,aJ 4 s=P:=⟨_,rfl⟩
 have hPi:∀ n,inI (aJ 4 n):=fun n=>by have:=iy (aX aV n);exact ⟨by omega,by omega⟩
 have i1:inI P1:=hP1▸hPi K;have i2:inI P2:=hP2▸hPi s;obtain ⟨En,hEn⟩:∃ En,bZ [It.int s,.text (dgS b)]=En:=⟨_,rfl⟩
 obtain ⟨Em,hEm⟩:∃ En,bZ [It.int P1,.int P2,.text (dgS b)]=En:=⟨_,rfl⟩
 obtain ⟨H0,hH0⟩:∃ H,qV (sb U0) En=H:=⟨_,rfl⟩
 obtain ⟨E,hE⟩:∃ H,qV (sb sgS) Em=H:=⟨_,rfl⟩
 have hElt:E<1073741789:=hE▸qW _ _;have eK:Hid (max (H0:Int) 1=K):=aab (by rw [←hKe];unfold zL;rw [hEn,hH0]);have eE:qR s b=(E:Nat):=by unfold qR sgV;rw [hKe,hP1,hP2,hEm,hE]
 have eS:Hid (sJ s b=(K+(E:Int)*s % 1073741789) % 1073741789):=aab (by unfold sJ;rw [hKe,eE]);replace eE:=aab eE;rw [hKe] at hK;have itok:(It.text (dgS b)).ok:=by show (dgS b).size≤1000000;rw [sH];exact hlen
 have ln:En.length≤1000012012:=by
  rw [←hEn]
  exact jZ (by
   intro x hx;simp only [aaq,aaw,or_false] at hx;rcases hx with rfl | rfl
   ·exact is
   ·exact itok) (by simp)
 have lm:Em.length≤1000012012:=by
  rw [←hEm]
  exact jZ (by
   intro x hx;simp only [aaq,aaw,or_false] at hx;rcases hx with rfl | rfl | rfl
   ·exact i1
   ·exact i2
   ·exact itok) (by simp)
 have on:okB En:=hEn▸iI _;have om:okB Em:=hEm▸iI _
 have q1:Hid (∀ w,Below W.heap.size W w→Calls prog 175 #[.slice (some ⟨w.heap.size,0,none⟩) 2 2] (w.alloc (.cells #[.iface 3 (.int .i64 s),.iface 83 (.slice A b.length c)] 20)) (kL 1 En.length (ag En) (w.alloc (.cells #[.iface 3 (.int .i64 s),.iface 83 (.slice A b.length c)] 20)))):=aab (fun w hw=>by
  have:=IA [.int s,.txt A c b] w (by
   intro x hx;simp only [aaq,aaw,or_false] at hx;rcases hx with rfl | rfl
   ·exact is
   ·exact ⟨(hA.below hw).more hw.size,hob,h0,hlen⟩) (by simp)
  rw [show ([Nb.int s,.txt A c b].map Nb.it)=[It.int s,.text (dgS b)] from rfl,hEn] at this;exact this)
 have q2:Hid (∀ (A:Option Addr) (c:Nat) (w:World),Rd w w.heap.size 1 A En.length (ag En)→(A=none→En.length=0∧c=0)→ShaG w→Calls prog 174 #[.string ⟨#[110,111,110,99,101]⟩,.slice A En.length c] w (Ret (.int .i64 (H0:Nat)) w)):=aab (fun A c w hR hn hGw=>by
  rw [←hH0];exact qX U0 A En.length c En w hR hn on (by decide) (aaj ln (by decide)) hGw)
 have q3:Hid (∀ w,Calls prog 176 #[.int .i64 4,.int .i64 K] w (Ret (.int .i64 P1) w)):=aab (fun w=>by rw [←hP1];exact wY 4 K w);have q4:Hid (∀ w,Calls prog 176 #[.int .i64 4,.int .i64 s] w (Ret (.int .i64 P2) w)):=aab (fun w=>by rw [←hP2];exact wY 4 s w)
 have q5:Hid (∀ w,Below W.heap.size W w→Calls prog 175 #[.slice (some ⟨w.heap.size,0,none⟩) 3 3] (w.alloc (.cells #[.iface 3 (.int .i64 P1),.iface 3 (.int .i64 P2),.iface 83 (.slice A b.length c)] 20)) (kL 1 Em.length (ag Em) (w.alloc (.cells #[.iface 3 (.int .i64 P1),.iface 3 (.int .i64 P2),.iface 83 (.slice A b.length c)] 20)))):=aab (fun w hw=>by
  have:=IA [.int P1,.int P2,.txt A c b] w (by
   intro x hx;simp only [aaq,aaw,or_false] at hx;rcases hx with rfl | rfl | rfl
   ·exact i1
   ·exact i2
   ·exact ⟨(hA.below hw).more hw.size,hob,h0,hlen⟩) (by simp)
  rw [show ([Nb.int P1,.int P2,.txt A c b].map Nb.it)=[It.int P1,.int P2,.text (dgS b)] from rfl,hEm] at this;exact this)
 have q6:Hid (∀ (A:Option Addr) (c:Nat) (w:World),Rd w w.heap.size 1 A Em.length (ag Em)→(A=none→Em.length=0∧c=0)→ShaG w→Calls prog 174 #[.string ⟨#[115,105,103,110]⟩,.slice A Em.length c] w (Ret (.int .i64 (E:Nat)) w)):=aab (fun A c w hR hn hGw=>by
  rw [←hE];exact qX sgS A Em.length c Em w hR hn om (by decide) (aaj lm (by decide)) hGw)
 clear hEn hEm hH0 hE hP1 hP2 hPi ln lm on om hKe itok i1 i2 is hob h0 hlen;have k1:1≤K:=by omega
 have k2:K<1073741789:=by omega
 have s3:0<s:=by omega
 have s4:s<1073741789:=by omega
 clear hK s1 s2 hs hA;have hmf:∀ (fn:Fn) (first cap:Array Value) (w:World),(Instr.makeFunc fn first cap).run prog w = .ok (.func fn first cap) w:=fun _ _ _ _=>rfl;have BE:=Blk.new W 31 #[.int .i64 0,.int .i64 0] _ rfl;have hb:=bAl (aj W) (.cells #[.int .i64 0,.int .i64 0] 31);go_enter func101,ntmps101;go_upto_region 3 with fail;generalize W.alloc (.cells #[.int .i64 0,.int .i64 0] 31)=w1 at *;go_wp2_with fail;refine (q1.out _ hb).mono ?_;rintro e w2 ⟨v2,rfl,b2,A2,c2,rfl,hR2,_,_,hn2⟩;have hb2:=ah (bAl hb _) b2;replace BE:=BE.below ((bAl (aj _) _).trans (b2.mono (by simp))) BE.lt;clear q1 b2 hb;go_wp2_with fail
 (with_reducible refine (q2.out _ _ _ hR2 hn2 (hG.below hb2)).mono ?_)
 rintro e w3 ⟨rfl,b3⟩;replace hb:=ah hb2 b3;replace BE:=BE.below b3 BE.lt;clear q2 b3 hR2 hn2 hb2;go_wp2_with fail;rw [eK.out];clear eK;refine (q3.out _).mono ?_;rintro e w4 ⟨rfl,b4⟩;replace hb:=ah hb b4;replace BE:=BE.below b4 BE.lt;clear q3 b4;go_wp2_with fail;refine (q4.out _).mono ?_;rintro e w5 ⟨rfl,b5⟩;replace hb:=ah hb b5;replace BE:=BE.below b5 BE.lt;clear q4 b5;go_wp2_with fail;refine (q5.out _ hb).mono ?_;rintro e w6 ⟨v6,rfl,b6,A6,c6,rfl,hR6,_,_,hn6⟩;replace BE:=BE.below ((bAl (aj _) _).trans (b6.mono (by simp))) BE.lt;replace hb:=ah (bAl hb _) b6;clear q5 b6;go_wp2_with fail
 (with_reducible refine (q6.out _ _ _ hR6 hn6 (hG.below hb)).mono ?_)
 rintro e w7 ⟨rfl,b7⟩;replace hb:=ah hb b7;replace BE:=BE.below b7 BE.lt;clear q6 b7 hR6 hn6;obtain ⟨c0,c1⟩:=pair_cells BE;have z0:=BE.frozen 0;have C1:=BE.set_ 0 (.int .i64 (E:Nat));have h1:=zQ7 hb (p:=⟨W.heap.size,0,none⟩) (aad _) (.int .i64 (E:Nat));go_upto_region 5 with fail;clear c0 c1 z0 BE hb;generalize w7.setCell ⟨W.heap.size,0,none⟩ (.int .i64 (E:Nat))=w8 at *;replace C1:Blk w8 W.heap.size 31 #[.int .i64 (E:Nat),.int .i64 0]:=C1;obtain ⟨c0,c1⟩:=pair_cells C1;have z1:=C1.frozen 1;have q8:=Sm E s hElt (by omega) w8;have q9:=U2 K (E*s % Qn) (by omega) (aaC _ (by decide)) w8;have eS2:Hid (((K:Int)+((E*s % Qn:Nat):Int)) % 1073741789=sJ s b):=aab (by rw [eS.out,zi]);rw [eS2.out] at q9;clear eS eS2;generalize sJ (s:Int) b=S at *;generalize E*s % Qn=T at *;go_wp2_with fail;refine q8.mono ?_;rintro e w9 ⟨rfl,rfl⟩;clear q8;go_wp2_with fail;refine q9.mono ?_;rintro e w9 ⟨rfl,rfl⟩;clear q9;have C2:=C1.set_ 1 (.int .i64 S);have h2:=zQ7 h1 (p:=⟨W.heap.size,1,none⟩) (aad _) (.int .i64 S);go_upto_region 7 with fail;clear c0 c1 z1 C1 h1;generalize w8.setCell ⟨W.heap.size,1,none⟩ (.int .i64 S)=w9 at *;replace C2:Blk w9 W.heap.size 31 #[.int .i64 (E:Nat),.int .i64 S]:=C2;obtain ⟨c0,c1⟩:=pair_cells C2;have z0:=C2.frozen 0;have z1:=C2.frozen 1;have C3:=(C2.set_ 0 (.int .i64 (E:Nat))).set_ 1 (.int .i64 S);have h3:=zQ7 (zQ7 h2 (p:=⟨W.heap.size,0,none⟩) (aad _) (.int .i64 (E:Nat))) (p:=⟨W.heap.size,1,none⟩) (aad _) (.int .i64 S);go_wp2_with fail;obtain ⟨e0,e1⟩:=pair_cells (E:=(E:Nat)) (S:=S) C3
 exact bodyPost_ret (v := .tuple #[.agg #[.int .i64 (E:Nat),.int .i64 S],.int .i64 0]) (by simp [results,results101,go_sem,e0,e1]) rfl ⟨U3 eE.out.symm rfl,h3⟩
end
section
open Go Go.RowKit
section
variable {P:Program} {ops:Array Oper} {Q:Exit→Act→World→Prop} {md:Region.Mode} {S:World→Prop} {f:Nat}
def gZ (md:Region.Mode) (ops:Array Oper) (f:Nat):List (Nat×Nat)→Array Bool→Bool
 | [],listed=>(Region.ready md ops listed).isEmpty
 | (k,0)::s,listed=>decide (Region.ready md ops listed=[k])&&gZ md ops f s (listed.setIfInBounds k true)
 | (k,1)::s,listed=>(Region.ready md ops listed).contains k&&Region.free md ops listed k&&ES md ops listed&&decide (k≠f)&&gZ md ops f s (listed.setIfInBounds k true)
 | (k,2)::s,listed=>(Region.ready md ops listed).contains k&&Region.free md ops listed k&&ES md ops listed&&decide (k≠f)&&vZ md ops f k (nP md ops f 6 k)&&gZ md ops f s (listed.setIfInBounds k true)
 | (k,3)::s,listed=>decide (Region.ready md ops listed=[k])&&(listed.setIfInBounds k true).getD f true&&gZ md ops f s (listed.setIfInBounds k true)
 | (k,_+4)::s,listed=>match s with
  | [(j,_)]=>decide (Region.ready md ops listed=[k,j])&&(decide (Region.ready md ops (listed.setIfInBounds k true)=[j])&&(decide (Region.ready md ops (listed.setIfInBounds j true)=[k])&&(decide (Region.ready md ops ((listed.setIfInBounds k true).setIfInBounds j true)=[])&&(decide (Region.ready md ops ((listed.setIfInBounds j true).setIfInBounds k true)=[])&&((listed.setIfInBounds k true).getD f true&&((listed.setIfInBounds j true).getD f true&&(((listed.setIfInBounds k true).setIfInBounds j true).getD f true&&((listed.setIfInBounds j true).setIfInBounds k true).getD f true)))))))
  | _=>false
def di (P:Program) (ops:Array Oper) (Q:Exit→Act→World→Prop) (S:World→Prop):List (Nat×Oper)→Act→World→Prop
 | [],a,w=>Q .normal a w
 | (0,o)::l,a,w=>if Region.wanted o (yielded ops a.tmps)=true then Oper.wp P o a w (fun a' w'=>S w'∧di P ops Q S l a' w') Q else (S w∧di P ops Q S l (a.put o.dst undef) w)
 | (1,o)::l,a,w=>∃ v,YieldsIf P ops (fun _=>True) o v a∧di P ops Q S l (a.put o.dst v) w
 | (2,o)::l,a,w=>∃ v,YieldsIf P ops S o v a∧di P ops Q S l (a.put o.dst v) w
 | (3,o)::l,a,w=>if Region.wanted o (yielded ops a.tmps)=true then Oper.wp P o a w (fun a' w'=>di P ops Q S l a' w') Q else di P ops Q S l (a.put o.dst undef) w
 | (_+4,o)::l,a,w=>wpList P ops Q (o::l.map (·.2)) a w∧wpList P ops Q (l.map (·.2)++[o]) a w
theorem Nz {listed:Array Bool} {j:Nat} {o:Oper} {a:Act} {w:World} (h1:Region.ready md ops listed=[j]) (h2:Region.ready md ops (listed.setIfInBounds j true)=[]) (h3:(listed.setIfInBounds j true).getD f true=true) (ho:ops[j]?=some o)
  (h:wpList P ops Q [o] a w):lI P md ops Q S f 1 listed a w:=by
 refine ⟨fun h0=>(by rw [h1] at h0;cases h0),fun i hi=>?_⟩;rw [h1] at hi;obtain rfl:i=j:=by simpa using hi
 have hw:wpOp P ops Q i (wpList P ops Q []) a w:=by unfold wpOp;simp only [ho];exact h
 exact wpOp_mono (fun a' w' h'=>⟨fun h0=>(by rw [h3] at h0;cases h0),mf h2 h' 0⟩) hw
theorem U5 {listed:Array Bool} {k j:Nat} {o o':Oper} {a:Act} {w:World} (h1:Region.ready md ops listed=[k,j]) (k1:Region.ready md ops (listed.setIfInBounds k true)=[j]) (j1:Region.ready md ops (listed.setIfInBounds j true)=[k])
  (k2:Region.ready md ops ((listed.setIfInBounds k true).setIfInBounds j true)=[]) (j2:Region.ready md ops ((listed.setIfInBounds j true).setIfInBounds k true)=[])
  (k3:(listed.setIfInBounds k true).getD f true=true) (j3:(listed.setIfInBounds j true).getD f true=true)
  (k4:((listed.setIfInBounds k true).setIfInBounds j true).getD f true=true) (j4:((listed.setIfInBounds j true).setIfInBounds k true).getD f true=true)
  (ho:ops[k]?=some o) (ho':ops[j]?=some o') (h:wpList P ops Q [o,o'] a w) (h':wpList P ops Q [o',o] a w):lI P md ops Q S f 2 listed a w:=by
 refine ⟨fun h0=>(by rw [h1] at h0;cases h0),fun i hi=>?_⟩;rw [h1] at hi;rcases aaq.1 hi with rfl | hi
 ·have hw:wpOp P ops Q i (wpList P ops Q [o']) a w:=by unfold wpOp;simp only [ho];exact h
  exact wpOp_mono (fun a' w' hx=>⟨fun h0=>(by rw [k3] at h0;cases h0),Nz k1 k2 k4 ho' hx⟩) hw
 ·obtain rfl:i=j:=by simpa using hi
  have hw:wpOp P ops Q i (wpList P ops Q [o]) a w:=by unfold wpOp;simp only [ho'];exact h'
  exact wpOp_mono (fun a' w' hx=>⟨fun h0=>(by rw [j3] at h0;cases h0),Nz j1 j2 j4 ho hx⟩) hw
theorem oq (hs:Region.noSelect ops=true) (hQ:∀ d v c a w,Q (.panic c) (Act.put a d v) w→Q (.panic c) a w):∀ (s:List (Nat×Nat)) (listed:Array Bool) (a:Act) (w:World),
  gZ md ops f s listed=true→(listed.getD f true=false→S w)→di P ops Q S (bf s ops.toList) a w→lI P md ops Q S f s.length listed a w
 | [],listed,a,w,hB,_,h=>mf (by simpa [gZ] using hB) h _
 | (k,0)::s,listed,a,w,hB,hS,h=>by
  simp only [gZ,aal,decide_eq_true_eq] at hB;obtain ⟨o,ho⟩:=dR (md:=md) (ops:=ops) (listed:=listed) (k:=k) (by rw [hB.1];simp);have ho':ops.toList[k]?=some o:=by simpa using ho
  simp only [bf,ho',di] at h;refine ⟨fun h0=>(by rw [hB.1] at h0;cases h0),fun j hj=>?_⟩;rw [hB.1] at hj;obtain rfl:j=k:=by simpa using hj
  have hw:wpOp P ops Q j (fun a' w'=>S w'∧di P ops Q S (bf s ops.toList) a' w') a w:=by
   unfold wpOp;simp only [ho]
   split at h
   ·rename_i c;rw [if_pos c];exact .inl h
   ·rename_i c;rw [if_neg c];exact h
  exact wpOp_mono (fun a' w' h'=>⟨fun _=>h'.1,oq hs hQ s _ a' w' hB.2 (fun _=>h'.1) h'.2⟩) hw
 | (k,1)::s,listed,a,w,hB,hS,h=>by
  simp only [gZ,aal,decide_eq_true_eq] at hB;obtain ⟨⟨⟨⟨h1,h2⟩,h3⟩,h4⟩,h5⟩:=hB;obtain ⟨o,ho⟩:=dR (md:=md) (ops:=ops) (listed:=listed) (k:=k) (by simpa using h1);have ho':ops.toList[k]?=some o:=by simpa using ho
  simp only [bf,ho',di] at h;obtain ⟨v,hv,h⟩:=h
  exact jM (T:=fun _=>True) ho (Region.noSelect_spec hs) (hQ _ _) h4 (fun _ _ _ _ _=>trivial) s.length listed a w (l9 h3) (Region.free_spec ho h2) (by simpa using h1) hv hS
   (oq hs hQ s _ _ w h5 (fun hf=>hS (by rw [getD_set_ne true h4] at hf;exact hf)) h)
 | (k,2)::s,listed,a,w,hB,hS,h=>by
  simp only [gZ,aal,decide_eq_true_eq] at hB;obtain ⟨⟨⟨⟨⟨h1,h2⟩,h3⟩,h4⟩,h6⟩,h5⟩:=hB;obtain ⟨o,ho⟩:=dR (md:=md) (ops:=ops) (listed:=listed) (k:=k) (by simpa using h1);have ho':ops.toList[k]?=some o:=by simpa using ho
  simp only [bf,ho',di] at h;obtain ⟨v,hv,h⟩:=h
  exact jM (T:=S) ho (Region.noSelect_spec hs) (hQ _ _) h4 (fun _ _ hc hu hS=>hS (pO hc _ k h6 hu)) s.length listed a w (l9 h3) (Region.free_spec ho h2) (by simpa using h1) hv hS
   (oq hs hQ s _ _ w h5 (fun hf=>hS (by rw [getD_set_ne true h4] at hf;exact hf)) h)
 | (k,3)::s,listed,a,w,hB,hS,h=>by
  simp only [gZ,aal,decide_eq_true_eq] at hB;obtain ⟨⟨h1,h2⟩,h3⟩:=hB;obtain ⟨o,ho⟩:=dR (md:=md) (ops:=ops) (listed:=listed) (k:=k) (by rw [h1];simp);have ho':ops.toList[k]?=some o:=by simpa using ho
  simp only [bf,ho',di] at h;refine ⟨fun h0=>(by rw [h1] at h0;cases h0),fun j hj=>?_⟩;rw [h1] at hj;obtain rfl:j=k:=by simpa using hj
  have hw:wpOp P ops Q j (di P ops Q S (bf s ops.toList)) a w:=by
   unfold wpOp;simp only [ho]
   split at h
   ·rename_i c;rw [if_pos c];exact .inl h
   ·rename_i c;rw [if_neg c];exact h
  exact wpOp_mono (fun a' w' h'=>⟨fun h0=>(by rw [h2] at h0;cases h0),oq hs hQ s _ a' w' h3 (fun h0=>(by rw [h2] at h0;cases h0)) h'⟩) hw
 | [(k,t+4)],listed,a,w,hB,hS,h=>by simp [gZ] at hB
 | (k,t+4)::x::y::s,listed,a,w,hB,hS,h=>by simp [gZ] at hB
 | [(k,t+4),(j,u)],listed,a,w,hB,hS,h=>by
  simp only [gZ,aal,decide_eq_true_eq] at hB;obtain ⟨h1,k1,j1,k2,j2,k3,j3,k4,j4⟩:=hB;obtain ⟨o,ho⟩:=dR (md:=md) (ops:=ops) (listed:=listed) (k:=k) (by rw [h1];simp);obtain ⟨o',hj⟩:=dR (md:=md) (ops:=ops) (listed:=listed) (k:=j) (by rw [h1];simp);have ho':ops.toList[k]?=some o:=by simpa using ho
  have hj':ops.toList[j]?=some o':=by simpa using hj
  simp only [bf,ho',hj',di,aat,aak,aaN,aaJ] at h;exact U5 h1 k1 j1 k2 j2 k3 j3 k4 j4 ho hj h.1 h.2
def Cj (md:Region.Mode) (ops:Array Oper) (f:Nat) (s:List (Nat×Nat)):Bool :=
 Region.noSelect ops&&decide (s.length=ops.size)&&gZ md ops f s (Array.replicate ops.size false)
theorem sK {id:Nat} {l:List Oper} {a:Act} {w w0:World} {f:Nat} (KS:Hid (∀ w',Below w0.heap.size w0 w'→S w')) (s:List (Nat×Nat)) (h:di P l.toArray (NoPanic Q) S (bf s l) a w.drew)
  (hm:P.follows .mixedOrders=true:=by kernel_rfl) (hB:Cj .any l.toArray f s=true:=by kernel_rfl)
  (hb:Below w0.heap.size w0 w.drew:=by (repeat (first | with_reducible assumption | with_reducible exact aj _ | with_reducible refine bDr ?_ | with_reducible refine bAl ?_ _))):(Code.region id l.toArray true).wp P Q a w:=by
 simp only [Cj,aal,decide_eq_true_eq] at hB;obtain ⟨⟨h1,h2⟩,h3⟩:=hB;refine wp_region_noPanic (wp_region_any hm ?_)
 have:=oq (md := .any) (f:=f) (Q:=NoPanic Q) (ops:=l.toArray) h1 (fun _ _ _ _ _ h=>h) s _ a w.drew h3 (fun _=>KS.out _ hb) (by simpa using h)
 have:=jF _ _ _ _ this
 rw [h2] at this;exact this
end
section
variable {P:Program} {ops:Array Oper} {Q:Exit→Act→World→Prop} {S:World→Prop} {o:Oper} {l:List (Nat×Oper)} {a a':Act} {w w0:World} {v:Value}
theorem fJ (h:di P ops Q S l a' w) (hw:Region.wanted o (yielded ops a.tmps)=true:=by rfl)
  (hv:∀ w,(execOp a.eval o).run P w = .ok (.value v) w:=by intro w;go_simp;try with_reducible rfl)
  (ht:a.put o.dst v=a':=by (try simp only [Act.put,aaf,aai,aah]) <;> with_reducible rfl):di P ops Q S ((1,o)::l) a w:=by
 subst ht;exact ⟨v,.inl ⟨hw,fun w _=>hv w⟩,h⟩
theorem vk (h:di P ops Q S l a' w) (hw:Region.wanted o (yielded ops a.tmps)=true:=by rfl)
  (hv:∀ w,S w→(execOp a.eval o).run P w = .ok (.value v) w:=by intro w hSw;go_simp;try with_reducible rfl)
  (ht:a.put o.dst v=a':=by (try simp only [Act.put,aaf,aai,aah]) <;> with_reducible rfl):di P ops Q S ((2,o)::l) a w:=by
 subst ht;exact ⟨v,.inl ⟨hw,hv⟩,h⟩
theorem sN (h:∀ K':Act→World→Prop,Shut (∀ a w,S w→(S w→di P ops Q S l a w)→K' a w)→if Region.wanted o (yielded ops a.tmps)=true then Oper.wp P o a w K' Q else K' (a.put o.dst undef) w) :
  di P ops Q S ((0,o)::l) a w:=h _ (fun _ _ hS hW=>⟨hS,hW hS⟩)
theorem zk (h:∀ K':Act→World→Prop,Shut (∀ a w,di P ops Q S l a w→K' a w)→if Region.wanted o (yielded ops a.tmps)=true then Oper.wp P o a w K' Q else K' (a.put o.dst undef) w) :
  di P ops Q S ((3,o)::l) a w:=h _ (fun _ _ hW=>hW)
theorem NC {X:Act→World→Prop} {K:Act→World→Prop} (hK:Shut (∀ a w,X a w→K a w)) (h:X a' w) (ht:a=a':=by (try simp only [Act.put,aaf,aai,aah]) <;> with_reducible rfl):K a w:=by
 subst ht;exact hK.out _ _ h
theorem xg {t:Nat} (h1:wpList P ops Q (o::l.map (·.2)) a w) (h2:wpList P ops Q (l.map (·.2)++[o]) a w):di P ops Q S ((t+4,o)::l) a w:=⟨h1,h2⟩
end
def OwnAt (w:World) (base:Nat) (e:TypeId) (size g n cap:Nat) (xs:List Value):Prop:=w.ownsRow base e size (.slice (some ⟨g,0,none⟩) n cap) n xs
theorem OwnAt.parts {w:World} {base:Nat} {e:TypeId} {size g n cap:Nat} {xs:List Value} (h:w.ownsRow base e size (.slice (some ⟨g,0,none⟩) n cap) n xs) :
  xs.length=n*size∧base≤g∧∃ cur,Blk w g e cur∧n≤cap∧cap≤maxLen∧cur.size=cap*size∧cur.toList.take (n*size)=xs:=by
 obtain ⟨h1,h2⟩:=h;refine ⟨h1,?_⟩;rcases h2 with ⟨h2,_⟩ | ⟨g',cap',cur,hv,hb,hh,r1,r2,r3,r4⟩
 ·cases h2
 ·injection hv with e1 _ e3
  injection e1 with e1
  injection e1 with e1
  subst e1;subst e3;exact ⟨hb,cur,hh,r1,r2,r3,r4⟩
theorem jH {w:World} {base:Nat} {e:TypeId} {size g n cap:Nat} {xs:List Value} (h:w.ownsRow base e size (.slice (some ⟨g,0,none⟩) n cap) n xs) {i:Nat} {u:Value} (hi:xs[i]?=some u):w.cell? ⟨g,i,none⟩=some u:=by
 obtain ⟨h1,h2,cur,hB,h3,h4,h5,h6⟩:=OwnAt.parts h;rw [hB.cell i];rw [←h6,aa6] at hi
 split at hi
 ·simpa using hi
 ·cases hi
theorem iG {w:World} {base:Nat} {e:TypeId} {size g n cap:Nat} {xs:List Value} (h:w.ownsRow base e size (.slice (some ⟨g,0,none⟩) n cap) n xs) (i:Nat) (u:Value) :
  (w.setCell ⟨g,i,none⟩ u).ownsRow base e size (.slice (some ⟨g,0,none⟩) n cap) n (xs.set i u):=by
 obtain ⟨h1,h2,cur,hB,h3,h4,h5,h6⟩:=OwnAt.parts h;refine ⟨by rw [List.length_set];exact h1,.inr ⟨g,cap,cur.setIfInBounds i u,rfl,h2,hB.set_ i u,h3,h4,by simpa using h5,?_⟩⟩;rw [←h6,Array.toList_setIfInBounds,List.take_set]
theorem jI {w:World} {base:Nat} {e:TypeId} {size g n cap:Nat} {xs:List Value} (h:w.ownsRow base e size (.slice (some ⟨g,0,none⟩) n cap) n xs) (i:Nat):w.frozen? ⟨g,i,none⟩=false:=by
 obtain ⟨h1,h2,cur,hB,_⟩:=OwnAt.parts h;exact hB.frozen i
theorem dV {w:World} {base g i:Nat} {e t:TypeId} {size n:Nat} {v u:Value} {xs:List Value} {cs:Array Value} (h:w.ownsRow base e size v n xs) (hB:Blk w g t cs) (hne:t≠e):(w.setCell ⟨g,i,none⟩ u).ownsRow base e size v n xs:=by
 obtain ⟨h1,h2⟩:=h;refine ⟨h1,?_⟩;rcases h2 with h2 | ⟨g',cap,cur,hv,hgb,hh,r⟩
 ·exact .inl h2
 ·refine .inr ⟨g',cap,cur,hv,hgb,(Below.heap_setCell _ _ _ _ ?_).trans hh,r⟩
  intro e2;have e3:g'=g:=e2;subst e3;unfold Blk at hB;rw [hB] at hh;simp at hh;exact hne hh.2
end
section
open Go.RowKit
def zeroV:List Value:=[.int .i64 0,.int .i64 0,.string ⟨#[]⟩,.slice none 0 0]
theorem Blk.dw {w:World} {g:Nat} {t:TypeId} {cs:Array Value} (h:Blk w g t cs):Blk w.drew g t cs:=h
theorem Blk.neT {w:World} {g g2:Nat} {t t2:TypeId} {cs cs2:Array Value} (h:Blk w g t cs) (h2:Blk w g2 t2 cs2) (hne:t≠t2):g≠g2:=by
 intro e;subst e;unfold Blk at h h2;rw [h] at h2;simp at h2;exact hne h2.2
theorem VP {X:List Value} {n:Nat} (h:X.length=n*4) (u0 u1 u2 u3:Value):((((X++zeroV).set (n*4) u0).set (n*4+1) u1).set (n*4+2) u2).set (n*4+3) u3=X++[u0,u1,u2,u3]:=by
 simp [h,zeroV]
theorem KE (ga c:Nat) (l:List Int) (W:World) (b k0:Nat) (v0:Value) (xs:List Value) (BA:Blk W ga 3 (ints l).toArray) (hn:l.length≤100) (hk0:k0≤1000)
  (BV:Blk W b 169 #[.int .i64 3,.int .i64 0,.string ⟨#[]⟩,v0]) (hown:W.ownsRow (b+1) 169 4 v0 k0 xs) :
  Calls prog 233 #[.slice (some ⟨ga,0,none⟩) l.length c,.pointer (some ⟨b,0,none⟩)] W (fun e w'=>e = .returned (.tuple #[])∧Below b W w'∧∃ v,Blk w' b 169 #[.int .i64 3,.int .i64 0,.string ⟨#[]⟩,v]∧w'.ownsRow (b+1) 169 4 v (k0+l.length) (xs++(l.map It.int).flatMap It.cells)):=by
 go_enter func233,ntmps233;go_wp2_with fail;have hbs0:b+1≤W.heap.size:=BV.lt;go_loopw [7] (fun i wr=>∃ (k:Nat) (v:Value),k≤l.length∧i = .int .i64 k∧Below b W wr∧W.heap.size≤wr.heap.size∧Blk wr ga 3 (ints l).toArray∧Blk wr b 169 #[.int .i64 3,.int .i64 0,.string ⟨#[]⟩,v]∧wr.ownsRow (b+1) 169 4 v (k0+k) (xs++((l.take k).map It.int).flatMap It.cells)) (fun i _=>l.length - (intOf i).toNat)
 case atStart=>exact ⟨0,_,aao _,rfl,Below.refl _ _,aad _,BA,BV,by simpa using hown⟩
 case round =>
  clear BV BA hown;obtain ⟨k,v,hk,rfl,hb,hsz,BA,BV,hown⟩:=hrel;have c3:wr.cell? ⟨b,3,none⟩=some v:=BV.cell 3;have z3:=BV.frozen 3;by_cases hlt:k<l.length
  ·obtain ⟨x,hx⟩:∃ x,Hid (l[k]?=some x):=⟨_,aab (aac hlt)⟩
   have d0:wr.cell? ⟨ga,k,none⟩=some (.int .i64 x):=by rw [BA.cell k];simp [ints,hx.out]
   have hsn:Hid (xs++((l.take (k+1)).map It.int).flatMap It.cells=(xs++((l.take k).map It.int).flatMap It.cells)++(It.int x).cells):=by
    obtain ⟨hk,rfl⟩:=aag.1 hx.out;show _=_;rw [aaB hk,aaT,aaP];simp
   have hbs:b+1≤wr.heap.size:=BV.lt;have h63:(k0+k)+1≤maxLen:=(by unfold maxLen;omega);have hby:((k0+k)+1)*56≤140737488355328:=(by omega);generalize hX:xs++((l.take k).map It.int).flatMap It.cells=X at *;obtain ⟨n0,hn0⟩:∃ n0,n0=k0+k:=⟨_,rfl⟩
   rw [←hn0] at hown h63 hby
   replace hn0:=aab hn0;have hXl:X.length=n0*4:=hown.1;obtain ⟨A2,c2,hv,_⟩:=Sl.of_own hown;subst hv;have KS:Hid (∀ w',Below wr.heap.size wr w'→w'.cell? ⟨b,3,none⟩=some (.slice A2 n0 c2)):=aab (fun w' h=>(BV.below h BV.lt).cell 3);go_upto_region 3 with fail;clear c3 z3 d0;have hownD:(wr.alloc (.cells #[.int .i64 0,.int .i64 0,.string ⟨#[]⟩,.slice none 0 0] 169)).drew.ownsRow (b+1) 169 4 (.slice A2 n0 c2) n0 X:=aC hown (bDr (bAl (aj wr) _));have BZ:Blk (wr.alloc (.cells #[.int .i64 0,.int .i64 0,.string ⟨#[]⟩,.slice none 0 0] 169)).drew wr.heap.size 169 zeroV.toArray:=Blk.dw (Blk.new wr _ _ _ rfl);have hsD:b+1≤(wr.alloc (.cells #[.int .i64 0,.int .i64 0,.string ⟨#[]⟩,.slice none 0 0] 169)).drew.heap.size:=(by show b+1≤(wr.alloc _).heap.size;simp;omega);have BVD:Blk (wr.alloc (.cells #[.int .i64 0,.int .i64 0,.string ⟨#[]⟩,.slice none 0 0] 169)).drew b 169 #[.int .i64 3,.int .i64 0,.string ⟨#[]⟩,.slice A2 n0 c2]:=Blk.dw (BV.alloc _);have BAD:Blk (wr.alloc (.cells #[.int .i64 0,.int .i64 0,.string ⟨#[]⟩,.slice none 0 0] 169)).drew ga 3 (ints l).toArray:=Blk.dw (BA.alloc _);have hbD:Below b W (wr.alloc (.cells #[.int .i64 0,.int .i64 0,.string ⟨#[]⟩,.slice none 0 0] 169)).drew:=hb.trans ((bDr (bAl (aj wr) _)).mono (by omega));have hone:∀ u∈zeroV,u.oneCell'=true:=by intro u hu;simp [zeroV] at hu;rcases hu with rfl | rfl | rfl | rfl <;> rfl
   have hlt1:(n0:Int)<(n0:Int)+1:=(by omega);refine sK (f:=6) KS [(0,1),(1,2),(2,1),(3,1),(4,1),(5,0),(6,3),(7,1),(9,1),(8,4),(10,4)] ?_;simp only [bf,aap,aar];refine fJ ?_;refine vk ?_;refine fJ ?_;refine fJ ?_;refine fJ ?_;refine sN (fun K hK=>?_)
   first | (refine iW (by rfl) (.tmp 12) (.tmp 16) 167 (by rfl) (b+1) 169 (.agg #[.int .i64 0,.int .i64 0,.string ⟨#[]⟩,.slice none 0 0]) 4 56 underlying167 gB rfl (by omega) (.slice A2 n0 c2) n0 X (by rfl) hownD wr.heap.size 169 1 1 zeroV (by rfl) BZ rfl (by omega) hone h63 hby hsD ?_;intro v' w' hown4 hg4;obtain ⟨g',cap',rfl⟩:=ownsRow_succ hown4) | (go_simp)
   refine aH hK KS ?_;clear hK K;refine zk (fun K hK=>?_)
   first | (refine iW (by rfl) (.tmp 12) (.tmp 16) 167 (by rfl) (b+1) 169 (.agg #[.int .i64 0,.int .i64 0,.string ⟨#[]⟩,.slice none 0 0]) 4 56 underlying167 gB rfl (by omega) (.slice A2 n0 c2) n0 X (by rfl) hownD wr.heap.size 169 1 1 zeroV (by rfl) BZ rfl (by omega) hone h63 hby hsD ?_;intro v' w' hown4 hg4;obtain ⟨g',cap',rfl⟩:=ownsRow_succ hown4) | (go_simp)
   refine NC hK ?_;clear hK K;refine fJ ?_;refine fJ ?_;refine xg ?_ ?_ <;> simp only [aat,aak,aaN,aaJ]
   all_goals
    have b4:=hg4.below hownD hsD;have BV4:=BVD.below b4 (by omega);have BA4:=hg4.blk hownD BAD (by decide);have hb4:=hbD.trans (b4.mono (by omega));have c4:=kV BV4;have z4:=BV4.frozen 3;have hXZ:∀ j,(X++zeroV)[n0*4+j]?=zeroV[j]?:=fun j=>(by rw [aaz (by omega),hXl];congr 1;omega);have y0:w'.cell? ⟨g',n0*4,none⟩=some (.int .i64 0):=jH hown4 (hXZ 0);have y1:w'.cell? ⟨g',n0*4+1,none⟩=some (.int .i64 0):=jH hown4 (hXZ 1);have y2:w'.cell? ⟨g',n0*4+2,none⟩=some (.string ⟨#[]⟩):=jH hown4 (hXZ 2);have y3:w'.cell? ⟨g',n0*4+3,none⟩=some (.slice none 0 0):=jH hown4 (hXZ 3);have f0:=jI hown4 (n0*4);have f1:=jI hown4 (n0*4+1);have f2:=jI hown4 (n0*4+2);have f3:=jI hown4 (n0*4+3);have hgb:b≠g':=(by have:=(OwnAt.parts hown4).2.1;omega);clear KS hownD BZ hsD BVD BAD hbD hXZ hb BA BV hown;go_wp2_with fail;have hga:ga≠g':=(by obtain ⟨_,_,cur,hB,_⟩:=OwnAt.parts hown4;exact BA4.neT hB (by decide));have hgab:ga≠b:=BA4.neT BV4 (by decide);have hgb2:b≤g':=(by have:=(OwnAt.parts hown4).2.1;omega);have hsz4:W.heap.size≤w'.heap.size:=aaj hsz (aaj (by simp) b4.size);have hfl:=VP hXl (.int .i64 1) (.int .i64 x) (.string ⟨#[]⟩) (.slice none 0 0);clear c4 z4 y0 y1 y2 y3 f0 f1 f2 f3 hone;refine NoPanic.normal ?_;go_wp2_with fail
   ·refine ⟨⟨k+1,_,by omega,by go_num,((((hb4.setCell (p:=⟨g',n0*4,none⟩) hgb2 _).setCell (p:=⟨g',n0*4+1,none⟩) hgb2 _).setCell (p:=⟨g',n0*4+2,none⟩) hgb2 _).setCell (p:=⟨g',n0*4+3,none⟩) hgb2 _).setCell (p:=⟨b,3,none⟩) (aad _) _,by simpa using hsz4,((((BA4.far (p:=⟨g',n0*4,none⟩) hga _).far (p:=⟨g',n0*4+1,none⟩) hga _).far (p:=⟨g',n0*4+2,none⟩) hga _).far (p:=⟨g',n0*4+3,none⟩) hga _).far (p:=⟨b,3,none⟩) hgab _,
     ((((BV4.far (p:=⟨g',n0*4,none⟩) hgb _).far (p:=⟨g',n0*4+1,none⟩) hgb _).far (p:=⟨g',n0*4+2,none⟩) hgb _).far (p:=⟨g',n0*4+3,none⟩) hgb _).set_ 3 _,?_⟩,by simp [intOf];omega⟩
    have:=gX (iG (iG (iG (iG hown4 (n0*4) (.int .i64 1)) (n0*4+1) (.int .i64 x)) (n0*4+2) (.string ⟨#[]⟩)) (n0*4+3) (.slice none 0 0)) (p:=⟨b,3,none⟩) (by show b<b+1;omega) (.slice (some ⟨g',0,none⟩) (n0+1) cap')
    rw [hfl] at this;have hn1:k0+(k+1)=n0+1:=(by have:=hn0.out;omega);rw [hsn.out,hn1];exact this
   ·refine ⟨⟨k+1,_,by omega,by go_num,((((hb4.setCell (p:=⟨b,3,none⟩) (aad _) _).setCell (p:=⟨g',n0*4,none⟩) hgb2 _).setCell (p:=⟨g',n0*4+1,none⟩) hgb2 _).setCell (p:=⟨g',n0*4+2,none⟩) hgb2 _).setCell (p:=⟨g',n0*4+3,none⟩) hgb2 _,by simpa using hsz4,((((BA4.far (p:=⟨b,3,none⟩) hgab _).far (p:=⟨g',n0*4,none⟩) hga _).far (p:=⟨g',n0*4+1,none⟩) hga _).far (p:=⟨g',n0*4+2,none⟩) hga _).far (p:=⟨g',n0*4+3,none⟩) hga _,
     ((((BV4.set_ 3 _).far (p:=⟨g',n0*4,none⟩) hgb _).far (p:=⟨g',n0*4+1,none⟩) hgb _).far (p:=⟨g',n0*4+2,none⟩) hgb _).far (p:=⟨g',n0*4+3,none⟩) hgb _,?_⟩,by simp [intOf];omega⟩
    have:=iG (iG (iG (iG (gX hown4 (p:=⟨b,3,none⟩) (by show b<b+1;omega) (.slice (some ⟨g',0,none⟩) (n0+1) cap')) (n0*4) (.int .i64 1)) (n0*4+1) (.int .i64 x)) (n0*4+2) (.string ⟨#[]⟩)) (n0*4+3) (.slice none 0 0)
    rw [hfl] at this;have hn1:k0+(k+1)=n0+1:=(by have:=hn0.out;omega);rw [hsn.out,hn1];exact this
  ·have hkn:k=l.length:=by omega
   clear c3 z3;replace hkn:=aab hkn;go_wp2_with fail;go_end0;refine ⟨rfl,hb,v,BV,?_⟩
   have:=hkn.out
   subst this;rw [abk] at hown;exact hown
end
end Go.Proofs.YthbibbkbaphpkaaGreatDoor

/- A region that draws its order, walked in ONE order that a schedule names: each step is either TAKEN (it may come up at any time, and hangs on no world or only on S) or FORCED (nothing else may come up). -/
import Derived.Test.YthbibbkbaphpkaaGreatDoorMad
import Derived.Test.YthbibbkbaphpkaaGreatDoorMai
import Derived.Lib.Bytealg
set_option maxHeartbeats 16000000
set_option maxRecDepth 1000000
namespace Go.Proofs.YthbibbkbaphpkaaGreatDoor
open _root_.Go.Proofs.Tryz
section
open Go
section
variable {P:Program} {ops:Array Oper} {Q:Exit→Act→World→Prop} {md:Region.Mode} {S:World→Prop} {f:Nat}
def iZ (md:Region.Mode) (ops:Array Oper) (f:Nat):List (Nat×Nat)→Array Bool→Bool
 | [],listed=>(Region.ready md ops listed).isEmpty
 | (k,0)::s,listed=>decide (Region.ready md ops listed=[k])&&iZ md ops f s (listed.setIfInBounds k true)
 | (k,1)::s,listed=>(Region.ready md ops listed).contains k&&Region.free md ops listed k&&ES md ops listed&&decide (k≠f)&&iZ md ops f s (listed.setIfInBounds k true)
 | (k,2)::s,listed=>(Region.ready md ops listed).contains k&&Region.free md ops listed k&&ES md ops listed&&decide (k≠f)&&vZ md ops f k (nP md ops f 6 k)&&iZ md ops f s (listed.setIfInBounds k true)
 | (k,_)::s,listed=>decide (Region.ready md ops listed=[k])&&(listed.setIfInBounds k true).getD f true&&(s.all (fun x=>decide (3≤x.2))&&iZ md ops f s (listed.setIfInBounds k true))
def bf:List (Nat×Nat)→List Oper→List (Nat×Oper)
 | [],_=>[]
 | (k,t)::s,l=>match l[k]? with
  | some o=>(t,o)::bf s l
  | none=>bf s l
def dH (P:Program) (ops:Array Oper) (Q:Exit→Act→World→Prop) (S:World→Prop):List (Nat×Oper)→Act→World→Prop
 | [],a,w=>Q .normal a w
 | (0,o)::l,a,w=>if Region.wanted o (yielded ops a.tmps)=true then Oper.wp P o a w (fun a' w'=>S w'∧dH P ops Q S l a' w') Q else (S w∧dH P ops Q S l (a.put o.dst undef) w)
 | (1,o)::l,a,w=>∃ v,YieldsIf P ops (fun _=>True) o v a∧dH P ops Q S l (a.put o.dst v) w
 | (2,o)::l,a,w=>∃ v,YieldsIf P ops S o v a∧dH P ops Q S l (a.put o.dst v) w
 | (_,o)::l,a,w=>wpList P ops Q (o::l.map (·.2)) a w
theorem dR {listed:Array Bool} {k:Nat} (h:k∈Region.ready md ops listed):∃ o,ops[k]?=some o:=by
 obtain ⟨_,oj,hoj,_⟩:=mem_ready.1 h;exact ⟨oj,hoj⟩
theorem Bo:∀ (s:List (Nat×Nat)) (listed:Array Bool) (a:Act) (w:World),s.all (fun x=>decide (3≤x.2))=true→iZ md ops f s listed=true→wpList P ops Q ((bf s ops.toList).map (·.2)) a w→lI P md ops Q S f s.length listed a w
 | [],listed,a,w,_,hB,h=>mf (by simpa [iZ] using hB) (by simpa [bf,wpList] using h) _
 | (k,0)::s,listed,a,w,h3,_,_=>by simp at h3
 | (k,1)::s,listed,a,w,h3,_,_=>by simp at h3
 | (k,2)::s,listed,a,w,h3,_,_=>by simp at h3
 | (k,t+3)::s,listed,a,w,h3,hB,h=>by
  simp only [iZ,aal,decide_eq_true_eq] at hB;obtain ⟨⟨h1,h2⟩,h4,h5⟩:=hB;obtain ⟨o,ho⟩:=dR (md:=md) (ops:=ops) (listed:=listed) (k:=k) (by rw [h1];simp);have ho':ops.toList[k]?=some o:=by simpa using ho
  simp only [bf,ho',aat] at h;refine ⟨fun h0=>(by rw [h1] at h0;cases h0),fun j hj=>?_⟩;rw [h1] at hj;obtain rfl:j=k:=by simpa using hj
  have hw:wpOp P ops Q j (wpList P ops Q ((bf s ops.toList).map (·.2))) a w:=by unfold wpOp;simp only [ho];exact h
  exact wpOp_mono (fun a' w' h'=>⟨fun h0=>(by rw [h2] at h0;cases h0),Bo s _ a' w' h4 h5 h'⟩) hw
theorem ug (hs:Region.noSelect ops=true) (hQ:∀ d v c a w,Q (.panic c) (Act.put a d v) w→Q (.panic c) a w):∀ (s:List (Nat×Nat)) (listed:Array Bool) (a:Act) (w:World),
  iZ md ops f s listed=true→(listed.getD f true=false→S w)→dH P ops Q S (bf s ops.toList) a w→lI P md ops Q S f s.length listed a w
 | [],listed,a,w,hB,_,h=>mf (by simpa [iZ] using hB) h _
 | (k,0)::s,listed,a,w,hB,hS,h=>by
  simp only [iZ,aal,decide_eq_true_eq] at hB;obtain ⟨o,ho⟩:=dR (md:=md) (ops:=ops) (listed:=listed) (k:=k) (by rw [hB.1];simp);have ho':ops.toList[k]?=some o:=by simpa using ho
  simp only [bf,ho',dH] at h;refine ⟨fun h0=>(by rw [hB.1] at h0;cases h0),fun j hj=>?_⟩;rw [hB.1] at hj;obtain rfl:j=k:=by simpa using hj
  have hw:wpOp P ops Q j (fun a' w'=>S w'∧dH P ops Q S (bf s ops.toList) a' w') a w:=by
   unfold wpOp;simp only [ho]
   split at h
   ·rename_i c;rw [if_pos c];exact .inl h
   ·rename_i c;rw [if_neg c];exact h
  exact wpOp_mono (fun a' w' h'=>⟨fun _=>h'.1,ug hs hQ s _ a' w' hB.2 (fun _=>h'.1) h'.2⟩) hw
 | (k,1)::s,listed,a,w,hB,hS,h=>by
  simp only [iZ,aal,decide_eq_true_eq] at hB;obtain ⟨⟨⟨⟨h1,h2⟩,h3⟩,h4⟩,h5⟩:=hB;obtain ⟨o,ho⟩:=dR (md:=md) (ops:=ops) (listed:=listed) (k:=k) (by simpa using h1);have ho':ops.toList[k]?=some o:=by simpa using ho
  simp only [bf,ho',dH] at h;obtain ⟨v,hv,h⟩:=h
  exact jM (T:=fun _=>True) ho (Region.noSelect_spec hs) (hQ _ _) h4 (fun _ _ _ _ _=>trivial) s.length listed a w (l9 h3) (Region.free_spec ho h2) (by simpa using h1) hv hS
   (ug hs hQ s _ _ w h5 (fun hf=>hS (by rw [getD_set_ne true h4] at hf;exact hf)) h)
 | (k,2)::s,listed,a,w,hB,hS,h=>by
  simp only [iZ,aal,decide_eq_true_eq] at hB;obtain ⟨⟨⟨⟨⟨h1,h2⟩,h3⟩,h4⟩,h6⟩,h5⟩:=hB;obtain ⟨o,ho⟩:=dR (md:=md) (ops:=ops) (listed:=listed) (k:=k) (by simpa using h1);have ho':ops.toList[k]?=some o:=by simpa using ho
  simp only [bf,ho',dH] at h;obtain ⟨v,hv,h⟩:=h
  exact jM (T:=S) ho (Region.noSelect_spec hs) (hQ _ _) h4 (fun _ _ hc hu hS=>hS (pO hc _ k h6 hu)) s.length listed a w (l9 h3) (Region.free_spec ho h2) (by simpa using h1) hv hS
   (ug hs hQ s _ _ w h5 (fun hf=>hS (by rw [getD_set_ne true h4] at hf;exact hf)) h)
 | (k,t+3)::s,listed,a,w,hB,hS,h=>by
  refine Bo ((k,t+3)::s) listed a w ?_ hB ?_
  ·simp only [iZ,aal] at hB
   simp only [List.all_cons,aal,decide_eq_true_eq];exact ⟨by omega,hB.2.1⟩
  ·simp only [iZ,aal,decide_eq_true_eq] at hB
   obtain ⟨o,ho⟩:=dR (md:=md) (ops:=ops) (listed:=listed) (k:=k) (by rw [hB.1.1];simp);have ho':ops.toList[k]?=some o:=(by simpa using ho);simp only [bf,ho',dH] at h;simpa only [bf,ho',aat] using h
def yl (md:Region.Mode) (ops:Array Oper) (f:Nat) (s:List (Nat×Nat)):Bool :=
 Region.noSelect ops&&decide (s.length=ops.size)&&iZ md ops f s (Array.replicate ops.size false)
theorem zH {id:Nat} {l:List Oper} {a:Act} {w:World} (S:World→Prop) (f:Nat) (s:List (Nat×Nat)) (hm:P.follows .mixedOrders=true) (hB:yl .any l.toArray f s=true)
  (hS:S w.drew) (h:dH P l.toArray (NoPanic Q) S (bf s l) a w.drew):(Code.region id l.toArray true).wp P Q a w:=by
 simp only [yl,aal,decide_eq_true_eq] at hB;obtain ⟨⟨h1,h2⟩,h3⟩:=hB;refine wp_region_noPanic (wp_region_any hm ?_)
 have:=ug (md := .any) (f:=f) (Q:=NoPanic Q) (ops:=l.toArray) h1 (fun _ _ _ _ _ h=>h) s _ a w.drew h3 (fun _=>hS) (by simpa using h)
 have:=jF _ _ _ _ this
 rw [h2] at this;exact this
theorem Fj {o:Oper} {l:List (Nat×Oper)} {a:Act} {w:World} {v:Value} (hw:Region.wanted o (yielded ops a.tmps)=true) (hv:∀ w,True→(execOp a.eval o).run P w = .ok (.value v) w)
  (h:dH P ops Q S l (a.put o.dst v) w):dH P ops Q S ((1,o)::l) a w:=⟨v,.inl ⟨hw,hv⟩,h⟩
theorem Fp {o:Oper} {l:List (Nat×Oper)} {a:Act} {w:World} {v:Value} (hw:Region.wanted o (yielded ops a.tmps)=true) (hv:∀ w,S w→(execOp a.eval o).run P w = .ok (.value v) w)
  (h:dH P ops Q S l (a.put o.dst v) w):dH P ops Q S ((2,o)::l) a w:=⟨v,.inl ⟨hw,hv⟩,h⟩
theorem au {o:Oper} {l:List (Nat×Oper)} {a:Act} {w:World}
  (h:∀ K':Act→World→Prop,Shut (∀ a w,S w→(S w→dH P ops Q S l a w)→K' a w)→if Region.wanted o (yielded ops a.tmps)=true then Oper.wp P o a w K' Q else K' (a.put o.dst undef) w) :
  dH P ops Q S ((0,o)::l) a w:=h _ (fun _ _ hS hW=>⟨hS,hW hS⟩)
theorem aN {o:Oper} {l:List (Nat×Oper)} {a:Act} {w:World} (h:wpList P ops Q (o::l.map (·.2)) a w):dH P ops Q S ((3,o)::l) a w:=h
end
end
section
open Go Go.RowKit
section
variable {P:Program} {ops:Array Oper} {Q:Exit→Act→World→Prop} {S:World→Prop} {o:Oper} {l:List (Nat×Oper)} {a a':Act} {w w0:World} {v:Value}
theorem ak (h:dH P ops Q S l a' w) (hw:Region.wanted o (yielded ops a.tmps)=true:=by rfl)
  (hv:∀ w,(execOp a.eval o).run P w = .ok (.value v) w:=by intro w;go_simp;try with_reducible rfl)
  (ht:a.put o.dst v=a':=by (try simp only [Act.put,aaf,aai,aah]) <;> with_reducible rfl):dH P ops Q S ((1,o)::l) a w:=by
 subst ht;exact Fj hw (fun w _=>hv w) h
theorem ax (h:dH P ops Q S l a' w) (hw:Region.wanted o (yielded ops a.tmps)=true:=by rfl)
  (hv:∀ w,S w→(execOp a.eval o).run P w = .ok (.value v) w:=by intro w hSw;go_simp;try with_reducible rfl)
  (ht:a.put o.dst v=a':=by (try simp only [Act.put,aaf,aai,aah]) <;> with_reducible rfl):dH P ops Q S ((2,o)::l) a w:=by
 subst ht;exact Fp hw hv h
theorem dC (h:dH P ops Q S l a' w) (hw:Region.wanted o (yielded ops a.tmps)=false:=by rfl)
  (ht:a.put o.dst undef=a':=by (try simp only [Act.put,aaf,aai,aah]) <;> with_reducible rfl):dH P ops Q S ((1,o)::l) a w:=by
 subst ht;exact ⟨undef,.inr ⟨hw,rfl⟩,h⟩
theorem aH {X:Act→World→Prop} {K:Act→World→Prop} (hK:Shut (∀ a w,S w→(S w→X a w)→K a w)) (KS:Hid (∀ w',Below w0.heap.size w0 w'→S w')) (h:X a' w) (ht:a=a':=by (try simp only [Act.put,aaf,aai,aah]) <;> with_reducible rfl)
  (hb:Below w0.heap.size w0 w:=by (repeat (first | with_reducible assumption | with_reducible exact aj _ | with_reducible refine bDr ?_ | with_reducible refine bAl ?_ _))):K a w:=by
 subst ht;exact hK.out _ _ (KS.out _ hb) (fun _=>h)
theorem aK {id f:Nat} {l:List Oper} (KS:Hid (∀ w',Below w0.heap.size w0 w'→S w')) (s:List (Nat×Nat)) (h:dH P l.toArray (NoPanic Q) S (bf s l) a w.drew)
  (hm:P.follows .mixedOrders=true:=by kernel_rfl) (hB:yl .any l.toArray f s=true:=by kernel_rfl)
  (hb:Below w0.heap.size w0 w.drew:=by (repeat (first | with_reducible assumption | with_reducible exact aj _ | with_reducible refine bDr ?_ | with_reducible refine bAl ?_ _))):(Code.region id l.toArray true).wp P Q a w :=
 zH S f s hm hB (KS.out _ hb) h
end
end
section
open Go.RowKit
def Tri.ok (r:Tri):Prop:=inI r.1∧inI r.2.1∧inI r.2.2
theorem Fq {w:World} {B n k:Nat} {A:Option Addr} {l:List Tri} {x:Tri} (h:Rd w B 3 A n (l.flatMap Tri.cl)) (hn:k<n) (hx:l[k]?=some x) :
  ∃ b off,A=some ⟨b,off,none⟩∧b<B∧w.cell? ⟨b,off+k*3,none⟩=some (.int .i64 x.1)∧w.cell? ⟨b,off+k*3+1,none⟩=some (.int .i64 x.2.1)∧w.cell? ⟨b,off+k*3+2,none⟩=some (.int .i64 x.2.2):=by
 obtain ⟨b,off,hA,hb,hc⟩:=h.2 (by omega);have hl:∀ y:Tri,y.cl.length=3:=fun _=>rfl;refine ⟨b,off,hA,hb,?_,?_,?_⟩
 ·have:=hc (k*3+0) (.int .i64 x.1) (by rw [oC hl l k 0 x hx (by omega)];rfl);rwa [←aay,aa9] at this
 ·have:=hc (k*3+1) (.int .i64 x.2.1) (by rw [oC hl l k 1 x hx (by omega)];rfl);rwa [←aay] at this
 ·have:=hc (k*3+2) (.int .i64 x.2.2) (by rw [oC hl l k 2 x hx (by omega)];rfl);rwa [←aay] at this
theorem fF {w:World} {g o:Nat} {d:List Nat} (hc:∀ j u,(ag d)[j]?=some u→w.cell? ⟨g,o+j,none⟩=some u) (hl:d.length=32) :
  (Instr.loadAt 29 (.pointer (some ⟨g,o,none⟩))).run prog w = .ok (.agg (ag d).toArray) w :=
 run_loadAt_mid w g o 29 (ag d) _ hc bQ rfl (by rw [ai,hl];exact aW)
theorem MZ {w:World} {B n k:Nat} {A:Option Addr} {l:List (List Nat×List Nat)} {x:List Nat×List Nat} (h:Rd w B 64 A n (l.flatMap kC)) (ho:∀ x∈l,dL x.1∧dL x.2) (hn:k<n) (hx:l[k]?=some x) :
  ∃ b off,A=some ⟨b,off,none⟩∧b<B∧(∀ j u,(ag x.1)[j]?=some u→w.cell? ⟨b,off+k*64+j,none⟩=some u)∧(∀ j u,(ag x.2)[j]?=some u→w.cell? ⟨b,off+k*64+32+j,none⟩=some u):=by
 obtain ⟨b,off,hA,hb,hc⟩:=h.2 (by omega)
 have hl:∀ y∈l,(kC y).length=64:=fun y hy=>by
  obtain ⟨h1,h2⟩:=ho y hy;unfold kC;rw [aan,ai,ai,h1.1,h2.1]
 have hx1:=(ho x (aam hx)).1.1;have hx2:=(ho x (aam hx)).2.1;have b1:(ag x.1).length=32:=by rw [ai,hx1]
 have b2:(ag x.2).length=32:=by rw [ai,hx2]
 refine ⟨b,off,hA,hb,fun j u hu=>?_,fun j u hu=>?_⟩
 ·have hj:j<32:=by have:=(aag.1 hu).1;omega
  have:=hc (k*64+j) u (by rw [jh l k j x hl hx (by omega)];unfold kC;rw [aaO (by omega)];exact hu)
  rwa [←aay] at this
 ·have hj:j<32:=by have:=(aag.1 hu).1;omega
  have:=hc (k*64+(32+j)) u (by rw [jh l k (32+j) x hl hx (by omega)];unfold kC;rw [aaz (by omega),show 32+j - (ag x.1).length=j by omega];exact hu)
  rwa [←aay,←aay] at this
theorem Xg {a b c d e f g h:Prop} (h1:a) (h2:b) (h3:c) (h4:d) (h5:e) (h6:f) (h7:g) (h8:h):a∧b∧c∧d∧e∧f∧g∧h:=⟨h1,h2,h3,h4,h5,h6,h7,h8⟩
theorem iK:(prog.info? 158).map (·.size)=some 36:=by kernel_rfl
def dD:Opn:=⟨0,0,0,0,aF 32⟩
theorem jG {o:Opn} (h:o.salt.length=32):o.cl.toArray.size=36:=by rw [aae];simp [Opn.cl,ai,h]
theorem Rl (s:TS) (t:Trn) (j:Nat) (W:World) (hT:TurnAt W W.heap.size s t) (h0:j<t.left.length) (h2:j<t.rl.length) (h4:j<t.salts.length) :
  Calls prog 183 #[.agg (s.cl t),.int .i64 (j:Nat)] W (Ret (.agg (t.opL j).cl.toArray) W):=by
 obtain ⟨x,hx⟩:∃ x,t.left[j]?=some x:=⟨_,aac h0⟩
 obtain ⟨r,hr⟩:∃ x,t.rl[j]?=some x:=⟨_,aac h2⟩
 obtain ⟨p,hp⟩:∃ x,t.salts[j]?=some x:=⟨_,aac h4⟩
 have hpo:=(hT.i4 p (aam hp)).1
 have he:Hid ((t.opL j).cl.toArray=(⟨x,r.1,r.2.1,r.2.2,p.1⟩:Opn).cl.toArray):=by
  show _=_;unfold Trn.opL;rw [aS hx,aS hr,aS hp]
 obtain ⟨a0,a1,a2,a3,a4,c0,c1,c2,c3,c4⟩:=s;obtain ⟨b0,o0,e0,l0,k0⟩:=jq hT.r0 h0 hx;obtain ⟨b2,o2,e2,l2,k2,k3,k4⟩:=Fq hT.r2 h2 hr;obtain ⟨b4,o4,e4,l4,k5,k6⟩:=MZ hT.r4 hT.i4 h4 hp;simp only at e0 e2 e4;subst e0;subst e2;subst e4;unfold TS.cl;dsimp only;have BT:Blk ((W.alloc (.cells #[.slice (some ⟨b0,o0,none⟩) t.left.length c0,.slice a1 t.right.length c1,.slice (some ⟨b2,o2,none⟩) t.rl.length c2,.slice a3 t.rr.length c3,.slice (some ⟨b4,o4,none⟩) t.salts.length c4] 39)).alloc (.cells dD.cl.toArray 158)) W.heap.size 39 #[.slice (some ⟨b0,o0,none⟩) t.left.length c0,.slice a1 t.right.length c1,.slice (some ⟨b2,o2,none⟩) t.rl.length c2,.slice a3 t.rr.length c3,.slice (some ⟨b4,o4,none⟩) t.salts.length c4]:=(Blk.new W _ _ _ rfl).alloc _;have BR:Blk ((W.alloc (.cells #[.slice (some ⟨b0,o0,none⟩) t.left.length c0,.slice a1 t.right.length c1,.slice (some ⟨b2,o2,none⟩) t.rl.length c2,.slice a3 t.rr.length c3,.slice (some ⟨b4,o4,none⟩) t.salts.length c4] 39)).alloc (.cells dD.cl.toArray 158)) (W.heap.size+1) 158 dD.cl.toArray:=Blk.new _ _ _ _ (by simp);have hb:=bAl (bAl (aj W) (.cells #[.slice (some ⟨b0,o0,none⟩) t.left.length c0,.slice a1 t.right.length c1,.slice (some ⟨b2,o2,none⟩) t.rl.length c2,.slice a3 t.rr.length c3,.slice (some ⟨b4,o4,none⟩) t.salts.length c4] 39)) (.cells dD.cl.toArray 158);generalize t.left.length=n0 at *;generalize t.right.length=n1 at *;generalize t.rl.length=n2 at *;generalize t.rr.length=n3 at *;generalize t.salts.length=n4 at *;go_enter func183,ntmps183;go_upto_region 1 with fail
 change Code.wp _ _ _ _ ((W.alloc (.cells #[.slice (some ⟨b0,o0,none⟩) n0 c0,.slice a1 n1 c1,.slice (some ⟨b2,o2,none⟩) n2 c2,.slice a3 n3 c3,.slice (some ⟨b4,o4,none⟩) n4 c4] 39)).alloc (.cells dD.cl.toArray 158));generalize (W.alloc (.cells #[.slice (some ⟨b0,o0,none⟩) n0 c0,.slice a1 n1 c1,.slice (some ⟨b2,o2,none⟩) n2 c2,.slice a3 n3 c3,.slice (some ⟨b4,o4,none⟩) n4 c4] 39)).alloc (.cells dD.cl.toArray 158)=w2 at *;have hz:=hb.size
 have KS:Hid (∀ w',Below w2.heap.size w2 w'→_):=aab (fun w' h=>Xg (fF (w:=w') (g:=b4) (o:=o4+j*64) (d:=p.1) (fun i u hu=>(h.cell (p:=⟨b4,o4+j*64+i,none⟩) (by show b4<_;omega)).trans ((hb.cell (p:=⟨b4,o4+j*64+i,none⟩) l4).trans (k5 i u hu))) hpo.1)
  ((BT.below h BT.lt).cell 0) ((BT.below h BT.lt).cell 2) ((BT.below h BT.lt).cell 4)
  ((h.cell (p:=⟨b0,o0+j,none⟩) (by show b0<_;omega)).trans ((hb.cell (p:=⟨b0,o0+j,none⟩) l0).trans k0))
  ((h.cell (p:=⟨b2,o2+j*3,none⟩) (by show b2<_;omega)).trans ((hb.cell (p:=⟨b2,o2+j*3,none⟩) l2).trans k2))
  ((h.cell (p:=⟨b2,o2+j*3+1,none⟩) (by show b2<_;omega)).trans ((hb.cell (p:=⟨b2,o2+j*3+1,none⟩) l2).trans k3))
  ((h.cell (p:=⟨b2,o2+j*3+2,none⟩) (by show b2<_;omega)).trans ((hb.cell (p:=⟨b2,o2+j*3+2,none⟩) l2).trans k4)))
 have HB:=Eh ⟨x,r.1,r.2.1,r.2.2,p.1⟩ hpo.1;have hsz:=jG (o:=⟨x,r.1,r.2.1,r.2.2,p.1⟩) hpo.1;have hsz0:dD.cl.toArray.size=36:=jG (eH 32);have hone:∀ v∈(⟨x,r.1,r.2.1,r.2.2,p.1⟩:Opn).cl.toArray.toList,v.oneCell'=true:=by simpa using Opn.one ⟨x,r.1,r.2.1,r.2.2,p.1⟩
 dsimp only at HB;generalize (⟨x,r.1,r.2.1,r.2.2,p.1⟩:Opn).cl.toArray=X at *;clear hT hx hr hp k0 k2 k3 k4 k5 k6 l0 l2 l4 hpo;refine aK (f:=17) KS [(0,1),(1,2),(2,1),(3,1),(4,2),(5,1),(6,2),(7,1),(8,1),(9,2),(10,1),(11,2),(12,1),(13,1),(14,1),(15,2),(16,1),(17,3)] ?_;simp only [bf,aap,aar];refine ak ?_;refine ax ?_
 iterate 2 refine ak ?_
 refine ax ?_;refine ak ?_;refine ax ?_
 iterate 2 refine ak ?_
 refine ax ?_;refine ak ?_;refine ax ?_
 iterate 3 refine ak ?_
 refine ax (v:=?vq1) (hv:=?hq1) ?_;case hq1=>(intro w hSw;(first | refine (af rfl rfl hSw).trans ?_ | refine (af rfl rfl hSw.1).trans ?_ | refine (af rfl rfl hSw.2.1).trans ?_ | refine (af rfl rfl hSw.2.2.1).trans ?_ | refine (af rfl rfl hSw.2).trans ?_ | refine (af rfl rfl hSw.2.2).trans ?_);with_reducible rfl)
 refine ak ?_ (hv:=fun w=>uV (by rfl) (by rfl) HB);refine aN ?_
 first | simp only [aak] | simp only [aat,aak]
 replace BR:=Blk.dr BR;replace hb:=bDr hb;clear KS HB BT;generalize w2.drew=w3 at *;refine aG (by rfl) (by rfl) (by rfl) (by rfl) (aQ BR (by rw [hsz];exact iK) (by rw [hsz0,hsz]) hone) ?_;simp only [Act.put];have BX:=BR.row X;have hb2:=below_setRow hb (show W.heap.size≤W.heap.size+1 by omega) X;generalize w3.setRow (W.heap.size+1) X=w4 at *;go_wp2_with fail;refine NoPanic.normal ?_;go_wp2_with fail;exact bodyPost_ret (v := .agg X) (results_cell_row rfl _ _ (W.heap.size+1) 158 _ (0,0) _ rfl BX underlying158 rfl (by rw [hsz];exact iK)) rfl ⟨by rw [he.out],hb2⟩
theorem Rn (s:TS) (t:Trn) (j:Nat) (W:World) (hT:TurnAt W W.heap.size s t) (h0:j<t.right.length) (h2:j<t.rr.length) (h4:j<t.salts.length) :
  Calls prog 186 #[.agg (s.cl t),.int .i64 (j:Nat)] W (Ret (.agg (t.opR j).cl.toArray) W):=by
 obtain ⟨x,hx⟩:∃ x,t.right[j]?=some x:=⟨_,aac h0⟩
 obtain ⟨r,hr⟩:∃ x,t.rr[j]?=some x:=⟨_,aac h2⟩
 obtain ⟨p,hp⟩:∃ x,t.salts[j]?=some x:=⟨_,aac h4⟩
 have hpo:=(hT.i4 p (aam hp)).2
 have he:Hid ((t.opR j).cl.toArray=(⟨x,r.1,r.2.1,r.2.2,p.2⟩:Opn).cl.toArray):=by
  show _=_;unfold Trn.opR;rw [aS hx,aS hr,aS hp]
 obtain ⟨a0,a1,a2,a3,a4,c0,c1,c2,c3,c4⟩:=s;obtain ⟨b0,o0,e0,l0,k0⟩:=jq hT.r1 h0 hx;obtain ⟨b2,o2,e2,l2,k2,k3,k4⟩:=Fq hT.r3 h2 hr;obtain ⟨b4,o4,e4,l4,k5,k6⟩:=MZ hT.r4 hT.i4 h4 hp;simp only at e0 e2 e4;subst e0;subst e2;subst e4;unfold TS.cl;dsimp only;have BT:Blk ((W.alloc (.cells #[.slice a0 t.left.length c0,.slice (some ⟨b0,o0,none⟩) t.right.length c1,.slice a2 t.rl.length c2,.slice (some ⟨b2,o2,none⟩) t.rr.length c3,.slice (some ⟨b4,o4,none⟩) t.salts.length c4] 39)).alloc (.cells dD.cl.toArray 158)) W.heap.size 39 #[.slice a0 t.left.length c0,.slice (some ⟨b0,o0,none⟩) t.right.length c1,.slice a2 t.rl.length c2,.slice (some ⟨b2,o2,none⟩) t.rr.length c3,.slice (some ⟨b4,o4,none⟩) t.salts.length c4]:=(Blk.new W _ _ _ rfl).alloc _;have BR:Blk ((W.alloc (.cells #[.slice a0 t.left.length c0,.slice (some ⟨b0,o0,none⟩) t.right.length c1,.slice a2 t.rl.length c2,.slice (some ⟨b2,o2,none⟩) t.rr.length c3,.slice (some ⟨b4,o4,none⟩) t.salts.length c4] 39)).alloc (.cells dD.cl.toArray 158)) (W.heap.size+1) 158 dD.cl.toArray:=Blk.new _ _ _ _ (by simp);have hb:=bAl (bAl (aj W) (.cells #[.slice a0 t.left.length c0,.slice (some ⟨b0,o0,none⟩) t.right.length c1,.slice a2 t.rl.length c2,.slice (some ⟨b2,o2,none⟩) t.rr.length c3,.slice (some ⟨b4,o4,none⟩) t.salts.length c4] 39)) (.cells dD.cl.toArray 158);generalize t.left.length=n0 at *;generalize t.right.length=n1 at *;generalize t.rl.length=n2 at *;generalize t.rr.length=n3 at *;generalize t.salts.length=n4 at *;go_enter func186,ntmps186;go_upto_region 1 with fail
 change Code.wp _ _ _ _ ((W.alloc (.cells #[.slice a0 n0 c0,.slice (some ⟨b0,o0,none⟩) n1 c1,.slice a2 n2 c2,.slice (some ⟨b2,o2,none⟩) n3 c3,.slice (some ⟨b4,o4,none⟩) n4 c4] 39)).alloc (.cells dD.cl.toArray 158));generalize (W.alloc (.cells #[.slice a0 n0 c0,.slice (some ⟨b0,o0,none⟩) n1 c1,.slice a2 n2 c2,.slice (some ⟨b2,o2,none⟩) n3 c3,.slice (some ⟨b4,o4,none⟩) n4 c4] 39)).alloc (.cells dD.cl.toArray 158)=w2 at *;have hz:=hb.size
 have KS:Hid (∀ w',Below w2.heap.size w2 w'→_):=aab (fun w' h=>Xg (fF (w:=w') (g:=b4) (o:=o4+j*64+32) (d:=p.2) (fun i u hu=>(h.cell (p:=⟨b4,o4+j*64+32+i,none⟩) (by show b4<_;omega)).trans ((hb.cell (p:=⟨b4,o4+j*64+32+i,none⟩) l4).trans (k6 i u hu))) hpo.1)
  ((BT.below h BT.lt).cell 1) ((BT.below h BT.lt).cell 3) ((BT.below h BT.lt).cell 4)
  ((h.cell (p:=⟨b0,o0+j,none⟩) (by show b0<_;omega)).trans ((hb.cell (p:=⟨b0,o0+j,none⟩) l0).trans k0))
  ((h.cell (p:=⟨b2,o2+j*3,none⟩) (by show b2<_;omega)).trans ((hb.cell (p:=⟨b2,o2+j*3,none⟩) l2).trans k2))
  ((h.cell (p:=⟨b2,o2+j*3+1,none⟩) (by show b2<_;omega)).trans ((hb.cell (p:=⟨b2,o2+j*3+1,none⟩) l2).trans k3))
  ((h.cell (p:=⟨b2,o2+j*3+2,none⟩) (by show b2<_;omega)).trans ((hb.cell (p:=⟨b2,o2+j*3+2,none⟩) l2).trans k4)))
 have HB:=Eh ⟨x,r.1,r.2.1,r.2.2,p.2⟩ hpo.1;have hsz:=jG (o:=⟨x,r.1,r.2.1,r.2.2,p.2⟩) hpo.1;have hsz0:dD.cl.toArray.size=36:=jG (eH 32);have hone:∀ v∈(⟨x,r.1,r.2.1,r.2.2,p.2⟩:Opn).cl.toArray.toList,v.oneCell'=true:=by simpa using Opn.one ⟨x,r.1,r.2.1,r.2.2,p.2⟩
 dsimp only at HB;generalize (⟨x,r.1,r.2.1,r.2.2,p.2⟩:Opn).cl.toArray=X at *;clear hT hx hr hp k0 k2 k3 k4 k5 k6 l0 l2 l4 hpo;refine aK (f:=17) KS [(0,1),(1,2),(2,1),(3,1),(4,2),(5,1),(6,2),(7,1),(8,1),(9,2),(10,1),(11,2),(12,1),(13,1),(14,1),(15,2),(16,1),(17,3)] ?_;simp only [bf,aap,aar];refine ak ?_;refine ax ?_
 iterate 2 refine ak ?_
 refine ax ?_;refine ak ?_;refine ax ?_
 iterate 2 refine ak ?_
 refine ax ?_;refine ak ?_;refine ax ?_
 iterate 3 refine ak ?_
 refine ax (v:=?vq2) (hv:=?hq2) ?_;case hq2=>(intro w hSw;(first | refine (af rfl rfl hSw).trans ?_ | refine (af rfl rfl hSw.1).trans ?_ | refine (af rfl rfl hSw.2.1).trans ?_ | refine (af rfl rfl hSw.2.2.1).trans ?_ | refine (af rfl rfl hSw.2).trans ?_ | refine (af rfl rfl hSw.2.2).trans ?_);with_reducible rfl)
 refine ak ?_ (hv:=fun w=>uV (by rfl) (by rfl) HB);refine aN ?_
 first | simp only [aak] | simp only [aat,aak]
 replace BR:=Blk.dr BR;replace hb:=bDr hb;clear KS HB BT;generalize w2.drew=w3 at *;refine aG (by rfl) (by rfl) (by rfl) (by rfl) (aQ BR (by rw [hsz];exact iK) (by rw [hsz0,hsz]) hone) ?_;simp only [Act.put];have BX:=BR.row X;have hb2:=below_setRow hb (show W.heap.size≤W.heap.size+1 by omega) X;generalize w3.setRow (W.heap.size+1) X=w4 at *;go_wp2_with fail;refine NoPanic.normal ?_;go_wp2_with fail;exact bodyPost_ret (v := .agg X) (results_cell_row rfl _ _ (W.heap.size+1) 158 _ (0,0) _ rfl BX underlying158 rfl (by rw [hsz];exact iK)) rfl ⟨by rw [he.out],hb2⟩
theorem Na (b m:Nat) (W:World) (hm:m=b):Calls prog 184 #[.pointer (some ⟨b,0,none⟩)] W (Same (.pointer (some ⟨m,3,none⟩)) W):=by
 subst hm;go_enter func184,ntmps184;go_wp2
 go_ret;exact ⟨rfl,rfl⟩
theorem Ig (b m:Nat) (W:World) (hm:m=b):Calls prog 187 #[.pointer (some ⟨b,0,none⟩)] W (Same (.pointer (some ⟨m,4,none⟩)) W):=by
 subst hm;go_enter func187,ntmps187;go_wp2
 go_ret;exact ⟨rfl,rfl⟩
def dI:Array Value:=#[.string fE,.func (.func 183) #[] #[],.func (.func 184) #[] #[],.func (.func 185) #[] #[],.string dB,.func (.func 186) #[] #[],.func (.func 187) #[] #[],.func (.func 188) #[] #[]]
theorem uh:(prog.info? 155).map (·.size)=some 8:=by kernel_rfl
theorem yt (W:World):Calls prog 105 #[] W (Ret (.agg dI) W):=by
 have BX:=Blk.new W 155 dI _ rfl;have hb:=bAl (aj W) (.cells dI 155);go_enter func105,ntmps105;go_upto_region 1 with fail;apply wp_region_lit
 iterate 9 go_step
 refine aG (by rfl) (by rfl) (by rfl) (by rfl) (bP (X:=dI) uh rfl (by
  intro v hv;simp only [dI,aaq,aaw,or_false] at hv;rcases hv with rfl | rfl | rfl | rfl | rfl | rfl | rfl | rfl <;> rfl)) ?_
 simp only [Act.put];generalize W.alloc (.cells dI 155)=w1 at *;go_wp2_with fail;exact bodyPost_ret (v := .agg dI) (results_cell_row rfl _ _ W.heap.size 155 _ (0,0) _ rfl BX underlying155 rfl uh) rfl ⟨rfl,hb⟩
end
section
open Go Go.RowKit
def nY:List Nat→List Nat→Int
 | [],[]=>0
 | [],_::_ => -1
 | _::_,[]=>1
 | a::x,b::y=>if a<b then -1 else if b<a then 1 else nY x y
theorem Bq:∀ x y:List Nat,x.length=y.length→(nY x y<0↔bef x y=true)
 | [],[],_=>by simp [nY,bef]
 | [],_::_,h=>by simp at h
 | _::_,[],h=>by simp at h
 | a::x,b::y,h=>by
  have ih:=Bq x y (by simpa using h);unfold nY bef;by_cases h1:a<b
  ·rw [if_pos h1,if_neg (by omega)];simp [h1]
  ·rw [if_neg h1]
   by_cases h2:b<a
   ·rw [if_pos h2,if_neg (by omega)];simp;omega
   ·rw [if_neg h2,if_pos (by omega)];exact ih
theorem Nc:∀ x y:List Nat,nY x y=0↔x=y
 | [],[]=>by simp [nY]
 | [],_::_=>by simp [nY]
 | _::_,[]=>by simp [nY]
 | a::x,b::y=>by
  have ih:=Nc x y;unfold nY;by_cases h1:a<b
  ·rw [if_pos h1];simp;omega
  ·rw [if_neg h1]
   by_cases h2:b<a
   ·rw [if_pos h2];simp;omega
   ·rw [if_neg h2,ih]
    have:a=b:=by omega
    simp [this]
theorem Bv:∀ x y:List Nat,okB x→okB y→Lib.compareBytes (x.map Nat.toUInt8) (y.map Nat.toUInt8)=nY x y
 | [],[],_,_=>rfl
 | [],_::_,_,_=>rfl
 | _::_,[],_,_=>rfl
 | a::x,b::y,hx,hy=>by
  have ih:=Bv x y (fun z hz=>hx z (aa8 _ hz)) (fun z hz=>hy z (aa8 _ hz));have ha:=hx a (by simp);have hb:=hy b (by simp)
  have e:∀ p q:Nat,p<256→q<256→(p.toUInt8<q.toUInt8↔p<q):=fun p q hp hq=>by
   rw [UInt8.lt_iff_toNat_lt];simp [aaR hp,aaR hq]
  simp only [aat,Lib.compareBytes,nY,ih,e a b ha hb,e b a hb ha]
theorem run_loadBytes {w:World} {g:Nat} : ∀ (l:List Nat) (off:Nat) (acc:ByteArray),(∀ j u,(ag l)[j]?=some u→w.cell? ⟨g,off+j,none⟩=some u)→okB l →
  (Extern.Bytes.loadBytes ⟨g,off,none⟩ l.length acc).run prog w = .ok ⟨(acc.data.toList++l.map Nat.toUInt8).toArray⟩ w
 | [],off,acc,_,_=>by simp [Extern.Bytes.loadBytes,Sem.run_pure]
 | a::l,off,acc,hc,ho=>by
  have h0:=hc 0 (.int .u8 (a:Nat)) rfl
  have ih:=run_loadBytes l (off+1) (acc.push (a:Int).toNat.toUInt8) (fun j u hj=>by
   have:=hc (j+1) u hj
   rwa [show off+(j+1)=off+1+j by omega] at this) (fun z hz=>ho z (aa8 _ hz))
  rw [aa9] at h0;rw [aas];simp only [Extern.Bytes.loadBytes,Sem.run_bind];have hl:(load ⟨g,off,none⟩).run prog w = .ok (.int .u8 (a:Nat)) w:=by simp [go_sem,h0]
  rw [hl,Result.andThen_ok];dsimp only;rw [dX,ih]
  have e:(acc.push (a:Int).toNat.toUInt8).data.toList=acc.data.toList++[a.toUInt8]:=by
   cases acc
   simp [ByteArray.push]
  rw [e,aaZ];rfl
theorem wP {w:World} {A:Option Addr} {n c B:Nat} {l:List Nat} (h:Rd w B 1 A n (ag l)) (ho:okB l):(Extern.Bytes.bytesOf (.slice A n c)).run prog w = .ok ⟨(l.map Nat.toUInt8).toArray⟩ w:=by
 have hl:l.length=n:=by have:=h.1;rw [ai,aaA] at this;exact this
 subst hl;cases A with
 | none =>
  have h0:l=[]:=by
   by_cases h1:0<l.length
   ·obtain ⟨b,off,e,_⟩:=h.2 h1
    cases e
   ·exact abo.1 (by omega)
  subst h0;rfl
 | some p =>
  by_cases h1:0<l.length
  ·obtain ⟨b,off,e,_,hc⟩:=h.2 h1
   injection e with e
   subst e
   have:=run_loadBytes l off .empty hc ho
   exact this
  ·have h0:l=[]:=abo.1 (by omega)
   subst h0;rfl
theorem Ro {A B:Option Addr} {n c m d:Nat} {x y:List Nat} {W:World} (hA:Rd W W.heap.size 1 A n (ag x)) (hB:Rd W W.heap.size 1 B m (ag y)) (hx:okB x) (hy:okB y) :
  (Extern.BytealgCompare.compare #[.slice A n c,.slice B m d]).run prog W = .ok (.int .i64 (nY x y)) W:=by
 change Sem.run _ (do pure (goInt (Extern.BytealgCompare.cmp (←Extern.Bytes.bytesOf (.slice A n c)) (←Extern.Bytes.bytesOf (.slice B m d))))) W=_;simp only [Sem.run_bind,wP hA hx,wP hB hy,Result.andThen_ok,Sem.run_pure];rw [Lib.cmp_eq,Bv x y hx hy];rfl
theorem J7 (A B:Option Addr) (n c m d:Nat) (x y:List Nat) (W:World) (hA:Rd W W.heap.size 1 A n (ag x)) (hB:Rd W W.heap.size 1 B m (ag y)) (hx:okB x) (hy:okB y) :
  Calls prog 143 #[.slice A n c,.slice B m d] W (Same (.int .i64 (nY x y)) W):=by
 have hr:(callFunc 205 #[.slice A n c,.slice B m d]).run prog W = .ok (.value (.int .i64 (nY x y))) W:=by
  rw [run_callFunc_extern func205 (by kernel_rfl) (by kernel_rfl) (by kernel_rfl) (e:=Extern.BytealgCompare.compare) (by kernel_rfl)];rw [Ro hA hB hx hy];rfl
 go_enter func143,ntmps143;go_wp2_with fail;go_ret;exact ⟨rfl,rfl⟩
theorem uX (x y:List Nat) (W:World) (hx:dL x) (hy:dL y) :
  Calls prog 59 #[.agg (ag x).toArray,.agg (ag y).toArray] W (Ret (.int .i64 (nY x y)) W):=by
 have B0:Blk ((W.alloc (.cells (ag x).toArray 29)).alloc (.cells (ag y).toArray 29)) W.heap.size 29 (ag x).toArray:=(Blk.new W _ _ _ rfl).alloc _;have B1:Blk ((W.alloc (.cells (ag x).toArray 29)).alloc (.cells (ag y).toArray 29)) (W.heap.size+1) 29 (ag y).toArray:=Blk.new _ _ _ _ (by simp);have hb:=bAl (bAl (aj W) (.cells (ag x).toArray 29)) (.cells (ag y).toArray 29);go_enter func59,ntmps59;go_upto_region 1 with fail;change Code.wp _ _ _ _ ((W.alloc (.cells (ag x).toArray 29)).alloc (.cells (ag y).toArray 29));generalize (W.alloc (.cells (ag x).toArray 29)).alloc (.cells (ag y).toArray 29)=w1 at *;have rd:∀ {w:World} {g:Nat} {d:List Nat},dL d→Blk w g 29 (ag d).toArray→Rd w w.heap.size 1 (some ⟨g,0,none⟩) 32 (ag d):=fun hd B=>⟨by rw [ai,hd.1],fun _=>⟨_,0,rfl,B.lt,fun j u hu=>by rw [aax,B.cell];simpa using hu⟩⟩
 have q:Hid (∀ w',Below w1.heap.size w1 w'→Calls prog 143 #[.slice (some ⟨W.heap.size,0,none⟩) 32 32,.slice (some ⟨W.heap.size+1,0,none⟩) 32 32] w' (Same (.int .i64 (nY x y)) w')):=aab (fun w' h=>J7 _ _ 32 32 32 32 x y w' (rd hx (B0.below h B0.lt)) (rd hy (B1.below h B1.lt)) hx.2 hy.2);have KS:Hid (∀ w',Below w1.heap.size w1 w'→True):=aab (fun _ _=>trivial);refine aK (f:=3) KS [(0,1),(1,1),(2,0),(3,3)] ?_;simp only [bf,aap,aar]
 iterate 2 refine ak ?_
 refine au (fun K hK=>?_);go_simp;(first | (go_at_call 143;(with_reducible refine (q.out _ (by with_reducible exact bDr (aj _))).mono ?_);rintro e w6 ⟨rfl,rfl⟩) | skip);refine aH hK KS ?_;clear hK K;refine aN ?_
 first | simp only [aak] | simp only [aat,aak]
 go_wp2_with fail;refine NoPanic.normal ?_;go_wp2_with fail;go_ret;exact ⟨rfl,bDr hb⟩
end
end Go.Proofs.YthbibbkbaphpkaaGreatDoor

/- shuffle: pairs that are all different; walked. -/
import Derived.Test.YthbibbkbaphpkaaGreatDoorMak
import Derived.Test.YthbibbkbaphpkaaGreatDoorMal
set_option maxHeartbeats 16000000
set_option maxRecDepth 1000000
namespace Go.Proofs.YthbibbkbaphpkaaGreatDoor
open _root_.Go.Proofs.Tryz
section
open Go.RowKit
theorem Np:PairOk prog 218 3 :=
 ⟨Maps.Keyed.of_law (deep_law_laid Gt (m:=2) (by omega) (of_decide_eq_true (by kernel_rfl)) (by kernel_rfl) (by rw [underlying218])),⟨underlying218,by kernel_rfl,by kernel_rfl,by kernel_rfl⟩,underlying3,⟨prog.types.size - 1,by have h:0<prog.types.size:=of_decide_eq_true (by kernel_rfl);omega⟩⟩
def y9 (p:Int×Int):List Value:=[.int .i64 p.1,.int .i64 p.2]
theorem UR {w:World} {B n k:Nat} {A:Option Addr} {l:List (Int×Int)} {x:Int×Int} (h:Rd w B 2 A n (l.flatMap y9)) (hn:k<n) (hx:l[k]?=some x) :
  ∃ b off,A=some ⟨b,off,none⟩∧b<B∧w.cell? ⟨b,off+k*2,none⟩=some (.int .i64 x.1)∧w.cell? ⟨b,off+k*2+1,none⟩=some (.int .i64 x.2):=by
 obtain ⟨b,off,hA,hb,hc⟩:=h.2 (by omega);have hl:∀ y:Int×Int,(y9 y).length=2:=fun _=>rfl;refine ⟨b,off,hA,hb,?_,?_⟩
 ·have:=hc (k*2+0) (.int .i64 x.1) (by rw [oC hl l k 0 x hx (by omega)];rfl);rwa [←aay,aa9] at this
 ·have:=hc (k*2+1) (.int .i64 x.2) (by rw [oC hl l k 1 x hx (by omega)];rfl);rwa [←aay] at this
theorem Wj (p:Int×Int) (W:World):Calls prog 164 #[.agg #[.int .i64 p.1,.int .i64 p.2]] W (Ret (.bool true) W):=by
 go_enter func164,ntmps164;go_wp2
 go_ret;exact ⟨rfl,bAl (aj _) _⟩
theorem Ii {l:List (Int×Int)} {k:Nat} {x:Int×Int} (h:(l.take k).Nodup) (hx:l[k]?=some x) (hn:x ∉ l.take k):(l.take (k+1)).Nodup:=by
 obtain ⟨hk,rfl⟩:=aag.1 hx;rw [aaB hk,List.nodup_append];refine ⟨h,by simp,fun a ha b hb e=>?_⟩;obtain rfl:b=l[k]:=by simpa using hb
 exact hn (e▸ha)
theorem Pm {l:List (Int×Int)} {k:Nat} {x:Int×Int} (hx:l[k]?=some x) (h:x∈l.take k):¬l.Nodup:=fun hn=>by
 obtain ⟨hk,rfl⟩:=aag.1 hx;obtain ⟨i,hi,e⟩:=List.mem_take_iff_getElem.1 h;have hi':i<k:=by omega
 have:=tV hn _ _ e
 omega
theorem RG (A:Option Addr) (c:Nat) (l:List (Int×Int)) (W:World) (hA:Rd W W.heap.size 2 A l.length (l.flatMap y9)) (hi:∀ x∈l,RF x) (hn:l.length≤1000) :
  Calls prog 163 #[.slice A l.length c,.func (.func 164) #[] #[]] W (Ret (.bool (decide l.Nodup)) W):=by
 have hmm:=@run_makeMap prog;go_enter func163,ntmps163;go_wp2_with fail;have BM0:=PMap.made W prog 218 4;have hb0:=bAl (aj W) (.map #[] 0);generalize W.alloc (.map #[] 0)=w1 at *;go_loopw [11] (fun i wr=>∃ k:Nat,k≤l.length∧i = .int .i64 k∧Below W.heap.size W wr∧PMap prog 218 4 wr W.heap.size k (fun z=>decide (z∈l.take k))∧Hid (l.take k).Nodup) (fun i _=>l.length - (intOf i).toNat)
 case atStart=>exact ⟨0,aao _,rfl,hb0,PMap.same (fun z=>by simp) BM0,aab (by simp)⟩
 case round =>
  clear BM0 hb0;obtain ⟨k,hkn,rfl,hb,BM,hN⟩:=hrel;by_cases hlt:k<l.length
  ·obtain ⟨x,hx⟩:∃ x,Hid (l[k]?=some x):=⟨_,aab (aac hlt)⟩
   obtain ⟨b,off,rfl,hbb,c0,c1⟩:=UR (hA.below hb) hlt hx.out;have hxi:=hi x (aam hx.out);have b1:=bAl (aj wr) (.cells #[.int .i64 x.1,.int .i64 x.2] 218);have BX:=Blk.new wr 218 #[.int .i64 x.1,.int .i64 x.2] _ rfl;have hb2:=ah hb b1;have BM2:=BM.below b1;go_upto_region 5 with fail;clear c0 c1;generalize wr.alloc (.cells #[.int .i64 x.1,.int .i64 x.2] 218)=w2 at *;have hlook:=BM2.look Np underlying4 underlying262 (by rfl) hxi;unfold Ih at hlook;obtain ⟨e0,e1⟩:=BX.two;by_cases hm:x∈l.take k
   ·have hno:=aab (decide_eq_false (Pm hx.out hm))
    rw [decide_eq_true hm] at hlook;clear hm;go_wp2_with fail;go_ret;exact ⟨aI hno.out.symm,hb2⟩
   ·rw [decide_eq_false hm] at hlook
    have hN2:=aab (Ii hN.out hx.out hm)
    have hS:Hid (∀ z,decide (z∈l.take (k+1))=if z=x then true else decide (z∈l.take k)):=by
     intro z;obtain ⟨hk,rfl⟩:=aag.1 hx.out;rw [aaB hk];by_cases hz:z=l[k]
     ·rw [if_pos hz];exact decide_eq_true (by rw [hz];exact List.mem_append_right _ (List.mem_singleton.2 rfl))
     ·rw [if_neg hz,abb,decide_eq_true_eq,decide_eq_true_eq,aaL]
      simp [hz]
    have q:=Wj x w2;clear hm;go_wp2_with fail;refine q.mono ?_;rintro e w3 ⟨rfl,b3⟩;replace hb2:=ah hb2 b3;replace BM2:=BM2.below b3;obtain ⟨e0,e1⟩:=(BX.below b3 BX.lt).two;have hsz:=hb2.size;have hszW:W.heap.size≤wr.heap.size:=hb.size;clear q;go_wp2_with (at_mapUpdate;refine zK rfl _ _ _ 262 rfl BM2 Np underlying4 underlying262 rfl (by omega) x true rfl rfl hxi ?_;intro w6 hown6 hgr6)
    exact ⟨⟨k+1,by omega,by go_num,hb2.grown hgr6 (by omega) (fun q e=>by cases e;omega),PMap.same hS.out hown6,hN2⟩,by simp [intOf];omega⟩
  ·have hyes:Hid (decide l.Nodup=true):=by
    have h1:=hN.out;rw [aaH (by omega)] at h1;exact decide_eq_true h1
   go_wp2_with fail;go_ret;exact ⟨aI hyes.out.symm,hb⟩
end
section
open Go Go.RowKit
section
variable {P:Program} {ops:Array Oper} {Q:Exit→Act→World→Prop} {md:Region.Mode} {S:World→Prop}
def nZ (P:Program) (md:Region.Mode) (ops:Array Oper) (Q:Exit→Act→World→Prop) (S:World→Prop):Nat→Array Bool→Act→World→Prop
 | 0,listed,a,w=>Region.ready md ops listed=[]∧Q .normal a w
 | g+1,listed,a,w=>(Region.ready md ops listed=[]→Q .normal a w) ∧
  ∀ i∈Region.ready md ops listed,wpOp P ops Q i (fun a' w'=>S w'∧nZ P md ops Q S g (listed.setIfInBounds i true) a' w') a w
theorem qI:∀ (g:Nat) (listed:Array Bool) (a:Act) (w:World),nZ P md ops Q S g listed a w→wpAny P md ops Q g listed a w
 | 0,_,_,_,h=>h
 | g+1,_,_,_,h=>⟨h.1,fun i hi=>wpOp_mono (fun a' w' h'=>qI g _ a' w' h'.2) (h.2 i hi)⟩
theorem wU {i:Nat} {oi:Oper} {v:Value} {T:World→Prop} (hi:ops[i]?=some oi) (hsel:∀ (j:Nat) (o:Oper) cs b,ops[j]?=some o→o.op ≠ .select cs b)
  (hQ:∀ c a w,Q (.panic c) (a.put oi.dst v) w→Q (.panic c) a w) (hT:∀ w,S w→T w) :
  ∀ (g:Nat) (listed:Array Bool) (a:Act) (w:World),Clo md ops listed →
   (∀ j oj,ops[j]?=some oj→j≠i→listed.getD j true=false→(∀ e∈oj.after,Region.binds md e=true→e.on≠i)→oi.apart ops oj=true) →
   i∈Region.ready md ops listed→YieldsIf P ops T oi v a→S w →
   nZ P md ops Q S g (listed.setIfInBounds i true) (a.put oi.dst v) w→nZ P md ops Q S (g+1) listed a w:=by
 intro g;induction g with
 | zero =>
  intro listed a w hc _ hr hy hS H;refine ⟨fun h=>(by rw [h] at hr;cases hr),fun j hj=>?_⟩;by_cases hji:j=i
  ·subst hji;exact hy.wpOp hi (hT _ hS) ⟨hS,H⟩
  ·have:=ready_mono hj hji
   rw [H.1] at this;cases this
 | succ g ih =>
  intro listed a w hc hfree hr hy hS H;have hun:=(mem_ready.1 hr).1;refine ⟨fun h=>(by rw [h] at hr;cases hr),fun j hj=>?_⟩;by_cases hji:j=i
  ·subst hji;exact hy.wpOp hi (hT _ hS) ⟨hS,H⟩
  ·have h1:=H.2 j (ready_mono hj hji)
   obtain ⟨hjun,oj,hoj,hall⟩:=mem_ready.1 hj
   have hnot:∀ e∈oj.after,Region.binds md e=true→e.on≠i:=fun e he hb heq=>by
    have h1:=hall e he hb;rw [heq,getD_both hun] at h1;cases h1
   have h2:=wpOp_putIf hoj (hfree j oj hoj hji hjun hnot) (fun cs b=>hsel i oi cs b hi) (fun cs b=>hsel j oj cs b hoj) hQ hy h1
   have hfree':∀ k ok,ops[k]?=some ok→k≠i→(listed.setIfInBounds j true).getD k true=false →
     (∀ e∈ok.after,Region.binds md e=true→e.on≠i)→oi.apart ops ok=true:=fun k ok hk hki hun hno=>by
    refine hfree k ok hk hki ?_ hno;by_cases hjk:j=k
    ·subst hjk;exact hjun
    ·rw [getD_set_ne true hjk] at hun;exact hun
   refine wpOp_mono (fun a' w' h3=>?_) h2;refine ⟨h3.2.1,ih (listed.setIfInBounds j true) a' w' (hc.set hj) hfree' (ready_mono hr (Ne.symm hji)) h3.1 h3.2.1 ?_⟩;rw [Array.setIfInBounds_comm _ _ hji];exact h3.2.2
def lg (md:Region.Mode) (ops:Array Oper):List (Nat×Nat)→Array Bool→Bool
 | [],_=>true
 | (k,0)::s,listed=>decide (Region.ready md ops listed=[k])&&lg md ops s (listed.setIfInBounds k true)
 | (k,_)::s,listed=>(Region.ready md ops listed).contains k&&Region.free md ops listed k&&ES md ops listed&&lg md ops s (listed.setIfInBounds k true)
def dG (P:Program) (md:Region.Mode) (ops:Array Oper) (Q:Exit→Act→World→Prop) (S:World→Prop) (g:Nat) (listed:Array Bool):List (Nat×Oper)→Act→World→Prop
 | [],a,w=>nZ P md ops Q S g listed a w
 | (0,o)::l,a,w=>if Region.wanted o (yielded ops a.tmps)=true then Oper.wp P o a w (fun a' w'=>S w'∧dG P md ops Q S g listed l a' w') Q else (S w∧dG P md ops Q S g listed l (a.put o.dst undef) w)
 | (1,o)::l,a,w=>∃ v,YieldsIf P ops (fun _=>True) o v a∧dG P md ops Q S g listed l (a.put o.dst v) w
 | (_+2,o)::l,a,w=>∃ v,YieldsIf P ops S o v a∧dG P md ops Q S g listed l (a.put o.dst v) w
def pY:List (Nat×Nat)→Array Bool→Array Bool
 | [],listed=>listed
 | (k,_)::s,listed=>pY s (listed.setIfInBounds k true)
theorem lM (hs:Region.noSelect ops=true) (hQ:∀ d v c a w,Q (.panic c) (Act.put a d v) w→Q (.panic c) a w) (g:Nat):∀ (s:List (Nat×Nat)) (listed:Array Bool) (a:Act) (w:World),
  lg md ops s listed=true→S w→dG P md ops Q S g (pY s listed) (bf s ops.toList) a w→nZ P md ops Q S (s.length+g) listed a w
 | [],listed,a,w,_,_,h=>by rw [List.length_nil,aax];exact h
 | (k,0)::s,listed,a,w,hB,hS,h=>by
  simp only [lg,aal,decide_eq_true_eq] at hB;obtain ⟨o,ho⟩:=dR (md:=md) (ops:=ops) (listed:=listed) (k:=k) (by rw [hB.1];simp);have ho':ops.toList[k]?=some o:=by simpa using ho
  simp only [bf,ho',dG] at h;rw [aas,Nat.add_right_comm];refine ⟨fun h0=>(by rw [hB.1] at h0;cases h0),fun j hj=>?_⟩;rw [hB.1] at hj;obtain rfl:j=k:=by simpa using hj
  have hw:wpOp P ops Q j (fun a' w'=>S w'∧dG P md ops Q S g (pY s (listed.setIfInBounds j true)) (bf s ops.toList) a' w') a w:=by
   unfold wpOp;simp only [ho]
   split at h
   ·rename_i c;rw [if_pos c];exact .inl h
   ·rename_i c;rw [if_neg c];exact h
  exact wpOp_mono (fun a' w' h'=>⟨h'.1,lM hs hQ g s _ a' w' hB.2 h'.1 h'.2⟩) hw
 | (k,1)::s,listed,a,w,hB,hS,h=>by
  simp only [lg,aal] at hB;obtain ⟨⟨⟨h1,h2⟩,h3⟩,h5⟩:=hB;obtain ⟨o,ho⟩:=dR (md:=md) (ops:=ops) (listed:=listed) (k:=k) (by simpa using h1);have ho':ops.toList[k]?=some o:=by simpa using ho
  simp only [bf,ho',dG] at h;obtain ⟨v,hv,h⟩:=h;rw [aas,Nat.add_right_comm];exact wU (T:=fun _=>True) ho (Region.noSelect_spec hs) (hQ _ _) (fun _ _=>trivial) (s.length+g) listed a w (l9 h3) (Region.free_spec ho h2) (by simpa using h1) hv hS (lM hs hQ g s _ _ w h5 hS h)
 | (k,n+2)::s,listed,a,w,hB,hS,h=>by
  simp only [lg,aal] at hB;obtain ⟨⟨⟨h1,h2⟩,h3⟩,h5⟩:=hB;obtain ⟨o,ho⟩:=dR (md:=md) (ops:=ops) (listed:=listed) (k:=k) (by simpa using h1);have ho':ops.toList[k]?=some o:=by simpa using ho
  simp only [bf,ho',dG] at h;obtain ⟨v,hv,h⟩:=h;rw [aas,Nat.add_right_comm];exact wU (T:=S) ho (Region.noSelect_spec hs) (hQ _ _) (fun _ h=>h) (s.length+g) listed a w (l9 h3) (Region.free_spec ho h2) (by simpa using h1) hv hS (lM hs hQ g s _ _ w h5 hS h)
theorem fA {w0:World} {id g:Nat} {l:List Oper} {a:Act} {w:World} (KS:Hid (∀ w',Below w0.heap.size w0 w'→S w')) (s:List (Nat×Nat)) (h:dG P .any l.toArray (NoPanic Q) S g (pY s (Array.replicate l.toArray.size false)) (bf s l) a w.drew)
  (hm:P.follows .mixedOrders=true:=by kernel_rfl) (hB:(Region.noSelect l.toArray&&(decide (s.length+g=l.toArray.size)&&lg .any l.toArray s (Array.replicate l.toArray.size false)))=true:=by kernel_rfl)
  (hb:Below w0.heap.size w0 w.drew:=by (repeat (first | with_reducible assumption | with_reducible exact aj _ | with_reducible refine bDr ?_ | with_reducible refine bAl ?_ _))):(Code.region id l.toArray true).wp P Q a w:=by
 simp only [aal,decide_eq_true_eq] at hB;obtain ⟨h1,h2,h3⟩:=hB;refine wp_region_noPanic (wp_region_any hm ?_)
 have:=qI _ _ _ _ (lM (md := .any) (Q:=NoPanic Q) (ops:=l.toArray) h1 (fun _ _ _ _ _ h=>h) g s _ a w.drew h3 (KS.out _ hb) (by simpa using h))
 rw [h2] at this;exact this
variable {o:Oper} {l:List (Nat×Oper)} {a a':Act} {w w0:World} {v:Value} {g:Nat} {listed:Array Bool}
theorem ae (h:dG P md ops Q S g listed l a' w) (hw:Region.wanted o (yielded ops a.tmps)=true:=by rfl)
  (hv:∀ w,(execOp a.eval o).run P w = .ok (.value v) w:=by intro w;go_simp;try with_reducible rfl)
  (ht:a.put o.dst v=a':=by (try simp only [Act.put,aaf,aai,aah]) <;> with_reducible rfl):dG P md ops Q S g listed ((1,o)::l) a w:=by
 subst ht;exact ⟨v,.inl ⟨hw,fun w _=>hv w⟩,h⟩
theorem az (h:dG P md ops Q S g listed l a' w) (hw:Region.wanted o (yielded ops a.tmps)=true:=by rfl)
  (hv:∀ w,S w→(execOp a.eval o).run P w = .ok (.value v) w:=by intro w hSw;go_simp;try with_reducible rfl)
  (ht:a.put o.dst v=a':=by (try simp only [Act.put,aaf,aai,aah]) <;> with_reducible rfl):dG P md ops Q S g listed ((2,o)::l) a w:=by
 subst ht;exact ⟨v,.inl ⟨hw,hv⟩,h⟩
theorem bW (h:∀ K':Act→World→Prop,Shut (∀ a w,S w→(S w→dG P md ops Q S g listed l a w)→K' a w)→if Region.wanted o (yielded ops a.tmps)=true then Oper.wp P o a w K' Q else K' (a.put o.dst undef) w) :
  dG P md ops Q S g listed ((0,o)::l) a w:=h _ (fun _ _ hS hW=>⟨hS,hW hS⟩)
def FD (P:Program) (md:Region.Mode) (ops:Array Oper) (Q:Exit→Act→World→Prop) (S:World→Prop) (g:Nat) (listed:Array Bool) (i:Nat) (a:Act) (w:World):Prop :=
 ∃ o,ops[i]?=some o∧∀ K':Act→World→Prop,Shut (∀ a w,S w→(S w→nZ P md ops Q S g (listed.setIfInBounds i true) a w)→K' a w)→if Region.wanted o (yielded ops a.tmps)=true then Oper.wp P o a w K' Q else K' (a.put o.dst undef) w
theorem Cb {i:Nat} (h:FD P md ops Q S g listed i a w):wpOp P ops Q i (fun a' w'=>S w'∧nZ P md ops Q S g (listed.setIfInBounds i true) a' w') a w:=by
 obtain ⟨o,ho,h⟩:=h;exact wpOp_step ho (fun K' hK=>h K' (fun a w hS hW=>hK a w ⟨hS,hW hS⟩))
theorem dS {i:Nat} (h:FD P md ops Q S g listed i a w) (hr:Region.ready md ops listed=[i]:=by kernel_rfl):nZ P md ops Q S (g+1) listed a w :=
 ⟨fun h0=>(by rw [hr] at h0;cases h0),fun j hj=>by
  rw [hr] at hj
  obtain rfl:j=i:=by simpa using hj
  exact Cb h⟩
theorem Cc {i j:Nat} (h:FD P md ops Q S g listed i a w) (h':FD P md ops Q S g listed j a w) (hr:Region.ready md ops listed=[i,j]:=by kernel_rfl):nZ P md ops Q S (g+1) listed a w :=
 ⟨fun h0 => (by rw [hr] at h0; cases h0), fun k hk => by
  rw [hr] at hk
  rcases aaq.1 hk with rfl | hk
  ·exact Cb h
  ·obtain rfl:k=j:=by simpa using hk
   exact Cb h'⟩
theorem jk (h:Q .normal a w) (hr:Region.ready md ops listed=[]:=by kernel_rfl):nZ P md ops Q S 0 listed a w:=⟨hr,h⟩
theorem bD {K:Act→World→Prop} {E:Prop} {w':World} (hgd:Region.wanted o (yielded ops a.tmps)=true) {ty:TypeId} {x y:Operand} (ho:o.op = .store ty x y) {q v:Value} (hx:a.eval x=q) (hy:a.eval y=v)
  (hl:(Instr.storeAt ty q v).run P w = .ok () w') (h:K (a.put o.dst undef) w'):if Region.wanted o (yielded ops a.tmps)=true then Oper.wp P o a w K Q else E:=by
 rw [if_pos hgd]
 have e:(execOp a.eval o).run P w = .ok .skip w':=by
  unfold execOp;rw [ho];simp only [Sem.run_bind,hx,hy,hl,Result.andThen_ok,Sem.run_pure]
 unfold Oper.wp;rw [e];exact h
end
theorem ix6 (a b c d e f:Int):∀ k:Nat,k<6→∃ m,[a,b,c,d,e,f][k]?=some m∧∀ w,(Instr.index 215 (.agg #[.int .i64 a,.int .i64 b,.int .i64 c,.int .i64 d,.int .i64 e,.int .i64 f]) (.int .i64 (k:Nat))).run prog w = .ok (.int .i64 m) w
 | 0,_=>⟨_,rfl,fun _=>by kernel_rfl⟩
 | 1,_=>⟨_,rfl,fun _=>by kernel_rfl⟩
 | 2,_=>⟨_,rfl,fun _=>by kernel_rfl⟩
 | 3,_=>⟨_,rfl,fun _=>by kernel_rfl⟩
 | 4,_=>⟨_,rfl,fun _=>by kernel_rfl⟩
 | 5,_=>⟨_,rfl,fun _=>by kernel_rfl⟩
 | k+6,h=>by omega
theorem UT (m:Mx) (bits:List Int) (l:List Opn):m.lens bits l=[(m.mid.length:Int),m.out.length,m.left.length,m.right.length,bits.length,l.length].all (fun x=>!(x != (m.inn.length:Int))):=by
 rw [abb];simp [Mx.lens];omega
theorem zY (a b:List Nat) (ha:a.length=32) (hb:b.length=32) (w:World):(binOp .neq 29 (.agg (ag a).toArray) (.agg (ag b).toArray)).run prog w = .ok (.bool (!decide (a=b))) w:=by
 obtain ⟨i0,hi⟩:∃ i,prog.info? 5=some i:=info_of_underlying underlying5;have hc:prog.cellsOf 5=1:=by kernel_rfl
 have h2:(Op.equalIn 10000 29 (.agg (ag a).toArray) (.agg (ag b).toArray)).run prog w = .ok (decide (a=b)) w:=by
  rw [show (10000:Nat)=9998+1+1 from rfl,run_equalIn_array w (9998+1) _ _ underlying29 hi,hc,qE 9998 a b w _ (by intro i hi;have:=aaE.1 hi;omega),QV ha hb]
 rw [run_neq_struct,h2];rfl
def ats (bits:List Int) (l:List Opn):List (Int×Int):=bits.zip (l.map Opn.at_)
theorem Kr {bits:List Int} {l:List Opn} {k:Nat} {b:Int} {o:Opn} (hb:bits[k]?=some b) (ho:l[k]?=some o):(ats bits l)[k]?=some (b,o.at_):=by
 unfold ats;rw [List.getElem?_zip_eq_some];exact ⟨hb,by rw [aaD,ho];rfl⟩
theorem Kt {bits:List Int} {l:List Opn} (h:l.length=bits.length):(ats bits l).length=bits.length:=by
 unfold ats;rw [List.length_zip,aaQ,h,Nat.min_self]
theorem Wl {w:World} {B n k:Nat} {A:Option Addr} {l:List Opn} {x:Opn} (h:Rd w B 36 A n (l.flatMap Opn.cl)) (hok:∀ o∈l,o.ok) (hn:k<n) (hx:l[k]?=some x) :
  ∃ b off,A=some ⟨b,off,none⟩∧b<B∧∀ j u,x.cl[j]?=some u→w.cell? ⟨b,off+k*36+j,none⟩=some u:=by
 obtain ⟨b,off,hA,hb,hc⟩:=h.2 (by omega);refine ⟨b,off,hA,hb,fun j u hj=>?_⟩;have hj36:j<36:=by have:=(aag.1 hj).1;rwa [Opn.cl_length (hok x (aam hx))] at this
 rw [aay];exact hc _ _ (by rw [jh l k j x (fun y hy=>Opn.cl_length (hok y hy)) hx hj36];exact hj)
theorem Po {w:World} {g o:Nat} {x:Opn} (hc:∀ j u,x.cl[j]?=some u→w.cell? ⟨g,o+j,none⟩=some u) (hx:x.ok) :
  (Instr.loadAt 158 (.pointer (some ⟨g,o,none⟩))).run prog w = .ok (.agg x.cl.toArray) w :=
 run_loadAt_mid w g o 158 x.cl _ hc underlying158 rfl (by rw [Opn.cl_length hx];exact iK)
theorem RH {n:Int} (h:inI n):(Lit.int .i64 n).wf=true:=Bool.and_eq_true_iff.2 ⟨decide_eq_true h.1,decide_eq_true h.2⟩
theorem zf {w:World} {B n k:Nat} {A:Option Addr} {l:List (List Nat)} {x:List Nat} (h:Rd w B 32 A n (l.flatMap ag)) (hok:∀ d∈l,dL d) (hn:k<n) (hx:l[k]?=some x) :
  ∃ b off,A=some ⟨b,off,none⟩∧b<B∧∀ j u,(ag x)[j]?=some u→w.cell? ⟨b,off+k*32+j,none⟩=some u:=by
 obtain ⟨b,off,hA,hb,hc⟩:=h.2 (by omega);have hl:∀ y∈l,(ag y).length=32:=fun y hy=>by rw [ai,(hok y hy).1]
 refine ⟨b,off,hA,hb,fun j u hj=>?_⟩;have hj32:j<32:=by have:=(aag.1 hj).1;rwa [hl x (aam hx)] at this
 rw [aay];exact hc _ _ (by rw [jh l k j x hl hx hj32];exact hj)
def eF:Array Value:=#[.string ⟨#[]⟩,.nilFunc,.nilFunc,.nilFunc]
theorem qJ:(prog.info? 154).map (·.size)=some 4:=by kernel_rfl
theorem Ce:(prog.info? 218).map (fun i=>(i.zero,i.size,i.bytes))=some (some (.agg #[.int .i64 0,.int .i64 0]),2,16):=by kernel_rfl
theorem RI (key : Int) (s : MS) (m : Mx) (A : Option Addr) (c : Nat) (bits : List Int) (C : Option Addr) (d : Nat) (l : List Opn) (W : World) (hM : MixAt W W.heap.size s m) (hA : Rd W W.heap.size 1 A bits.length (ints bits)) (hC : Rd W W.heap.size 36 C l.length (l.flatMap Opn.cl)) (hok : ∀ o ∈ l, o.ok)
  (hn:m.inn.length≤1000000∧m.mid.length≤1000000∧m.out.length≤1000000∧m.left.length≤1000000∧m.right.length≤1000000∧bits.length≤1000000∧l.length≤1000000) (hG:ShaG W) :
  Calls prog 87 #[.int .i64 key,.agg (s.cl m),.slice A bits.length c,.slice C l.length d] W (Ret (.bool (kz key m bits l)) W):=by
 have BM:=Blk.new W 47 (s.cl m) _ rfl;have hb:=bAl (aj W) (.cells (s.cl m) 47);obtain ⟨v,hv⟩:∃ v,Hid (v=kz key m bits l):=⟨_,aab rfl⟩
 have hle:=aab (UT m bits l);rw [←hv.out];obtain ⟨n1,n2,n3,n4,n5,n6,n7⟩:=hn;obtain ⟨M,hMd⟩:∃ M,s.cl m=M:=⟨_,rfl⟩
 have hMc:Hid (M=#[.slice s.a0 m.inn.length s.c0,.slice s.a1 m.mid.length s.c1,.slice s.a2 m.out.length s.c2,.slice s.a3 m.left.length s.c3,.slice s.a4 m.right.length s.c4]):=aab hMd.symm;rw [hMd] at BM hb ⊢
 have hcl:Hid (∀ w,Blk w W.heap.size 47 M→w.cell? ⟨W.heap.size,0,none⟩=some (.slice s.a0 m.inn.length s.c0)∧w.cell? ⟨W.heap.size,1,none⟩=some (.slice s.a1 m.mid.length s.c1)∧w.cell? ⟨W.heap.size,2,none⟩=some (.slice s.a2 m.out.length s.c2)∧w.cell? ⟨W.heap.size,3,none⟩=some (.slice s.a3 m.left.length s.c3)∧w.cell? ⟨W.heap.size,4,none⟩=some (.slice s.a4 m.right.length s.c4)) :=
  aab (fun w B=>by rw [hMc.out] at B;exact ⟨B.cell 0,B.cell 1,B.cell 2,B.cell 3,B.cell 4⟩)
 obtain ⟨d0,d1,d2,d3,d4⟩:=hcl.out _ BM;go_enter func87,ntmps87;go_upto_region 1 with fail;generalize W.alloc (.cells M 47)=w1 at *;go_wp2_with fail;go_loopw [42] (fun i wr=>∃ k:Nat,k≤6∧i = .int .i64 k∧w1=wr∧Hid (∀ y∈[(m.mid.length:Int),m.out.length,m.left.length,m.right.length,bits.length,l.length].take k,(y != (m.inn.length:Int))=false)) (fun i _=>6 - (intOf i).toNat)
 case atStart=>exact ⟨0,by omega,rfl,rfl,aab (by simp)⟩
 case round =>
  obtain ⟨k,hk,rfl,rfl,hp⟩:=hrel;by_cases hlt:k<6
  ·obtain ⟨x,hm,hix⟩:=ix6 m.mid.length m.out.length m.left.length m.right.length bits.length l.length k hlt
   cases he:(x != (m.inn.length:Int))
   ·have hp':=aab (wQ hp.out hm he)
    clear hm;go_wp2_with fail;exact ⟨⟨k+1,by omega,by go_num,trivial,hp'⟩,by simp [intOf];omega⟩
   ·have hv2:Hid (v=false):=by
     show _=_;rw [hv.out];unfold kz;rw [hle.out,abt];exact .inl (abn.2 ⟨x,aam hm,by rw [he];simp⟩)
    clear hm;go_wp2_with fail;go_ret;exact ⟨aI hv2.out.symm,hb⟩
  ·have hall:m.lens bits l=true:=by
    rw [hle.out]
    have:=hp.out
    rw [aaH (by simp;omega)] at this;exact aau.2 fun y hy=>by rw [this y hy];rfl
   have hln:=aab (of_decide_eq_true hall)
   have hv3:Hid (v=(m.form key bits&&((List.range m.inn.length).all (fun j=>m.fits key (bits.getD j 0) j (l.getD j MV))&&decide (ats bits l).Nodup))):=by
    show _=_;rw [hv.out];unfold kz;rw [hall,aaM];rfl
   have hfm:Hid (m.form key bits=(aA key&&(decide (m.inn.length≤64)&&(m.inn.all Ltr.good&&(m.mid.all Ltr.good&&(m.out.all Ltr.good&&bits.all eU)))))):=aab rfl;clear hp hall;generalize m.form key bits=fm at *;have q1:=bU key w1;cases hc0:aA key
   ·have hv4:Hid (v=false):=by show _=_;rw [hv3.out,hfm.out,hc0];rfl
    rw [hc0] at q1;clear hc0 hv3 hfm hv hle;go_wp2_with fail;refine q1.mono ?_;rintro e w2 ⟨rfl,rfl⟩;go_wp2_with fail;go_ret;exact ⟨aI hv4.out.symm,hb⟩
   ·rw [hc0,aaM] at hfm
    rw [hc0] at q1;have hkv:=aab hc0;clear hc0;by_cases h64:m.inn.length≤64
    rotate_left 1
    ·have hv4:Hid (v=false):=by show _=_;rw [hv3.out,hfm.out,decide_eq_false h64];simp
     have h64i:¬((m.inn.length:Int)≤64):=(by omega);have h64j:(64:Int)<(m.inn.length:Int):=(by omega);clear hv3 hfm hv hle;go_wp2_with fail;refine q1.mono ?_;rintro e w2 ⟨rfl,rfl⟩;go_wp2_with fail;go_ret;exact ⟨aI hv4.out.symm,hb⟩
    rw [decide_eq_true h64,aaM] at hfm;have h64i:¬((64:Int)<(m.inn.length:Int)):=(by omega);go_wp2_with fail;refine q1.mono ?_;rintro e w2 ⟨rfl,rfl⟩;clear q1;cases hc2:m.inn.all Ltr.good
    ·have hv4:Hid (v=false):=by show _=_;rw [hv3.out,hfm.out,hc2];rfl
     have q2:=lL s.a0 m.inn.length s.c0 m.inn _ ((hM.r0.below hb).more hb.size) (by omega);rw [hc2] at q2;clear hc2 hv3 hfm hv hle;go_wp2_with fail;refine q2.mono ?_;rintro e w2 ⟨rfl,b2⟩;replace hb:=ah hb b2;go_wp2_with fail;go_ret;exact ⟨aI hv4.out.symm,hb⟩
    ·have q2 := lL s.a0 m.inn.length s.c0 m.inn _ ((hM.r0.below hb).more hb.size) (by omega)
     rw [hc2,aaM] at hfm;rw [hc2] at q2;have hx2:=aab hc2;clear hc2;go_wp2_with fail;refine q2.mono ?_;rintro e w2 ⟨rfl,b2⟩;replace BM:=BM.below b2 BM.lt;replace hb:=ah hb b2;clear q2 b2 d0 d1 d2 d3 d4;obtain ⟨d0,d1,d2,d3,d4⟩:=hcl.out _ BM;cases hc3:m.mid.all Ltr.good
     ·have hv4:Hid (v=false):=by show _=_;rw [hv3.out,hfm.out,hc3];rfl
      have q2:=lL s.a1 m.mid.length s.c1 m.mid _ ((hM.r1.below hb).more hb.size) (by omega);rw [hc3] at q2;clear hc3 hv3 hfm hv hle;go_wp2_with fail;refine q2.mono ?_;rintro e w2 ⟨rfl,b2⟩;replace hb:=ah hb b2;go_wp2_with fail;go_ret;exact ⟨aI hv4.out.symm,hb⟩
     ·have q2 := lL s.a1 m.mid.length s.c1 m.mid _ ((hM.r1.below hb).more hb.size) (by omega)
      rw [hc3,aaM] at hfm;rw [hc3] at q2;have hx3:=aab hc3;clear hc3;go_wp2_with fail;refine q2.mono ?_;rintro e w2 ⟨rfl,b2⟩;replace BM:=BM.below b2 BM.lt;replace hb:=ah hb b2;clear q2 b2 d0 d1 d2 d3 d4;obtain ⟨d0,d1,d2,d3,d4⟩:=hcl.out _ BM;cases hc4:m.out.all Ltr.good
      ·have hv4:Hid (v=false):=by show _=_;rw [hv3.out,hfm.out,hc4];rfl
       have q2:=lL s.a2 m.out.length s.c2 m.out _ ((hM.r2.below hb).more hb.size) (by omega);rw [hc4] at q2;clear hc4 hv3 hfm hv hle;go_wp2_with fail;refine q2.mono ?_;rintro e w2 ⟨rfl,b2⟩;replace hb:=ah hb b2;go_wp2_with fail;go_ret;exact ⟨aI hv4.out.symm,hb⟩
      ·have q2 := lL s.a2 m.out.length s.c2 m.out _ ((hM.r2.below hb).more hb.size) (by omega)
       rw [hc4,aaM] at hfm;rw [hc4] at q2;have hx4:=aab hc4;clear hc4;go_wp2_with fail;refine q2.mono ?_;rintro e w2 ⟨rfl,b2⟩;replace BM:=BM.below b2 BM.lt;replace hb:=ah hb b2;clear q2 b2 d0 d1 d2 d3 d4;obtain ⟨d0,d1,d2,d3,d4⟩:=hcl.out _ BM;cases hc5:bits.all eU
       ·have hv4:Hid (v=false):=by show _=_;rw [hv3.out,hfm.out,hc5];rfl
        have q2:=yw A c bits _ ((hA.below hb).more hb.size) (by omega);rw [hc5] at q2;clear hc5 hv3 hfm hv hle;go_wp2_with fail;refine q2.mono ?_;rintro e w2 ⟨rfl,b2⟩;replace hb:=ah hb b2;go_wp2_with fail;go_ret;exact ⟨aI hv4.out.symm,hb⟩
       ·have q2 := yw A c bits _ ((hA.below hb).more hb.size) (by omega)
        rw [hc5] at hfm;rw [hc5] at q2;have hx5:=aab hc5;clear hc5;go_wp2_with fail;refine q2.mono ?_;rintro e w2 ⟨rfl,b2⟩;replace BM:=BM.below b2 BM.lt;replace hb:=ah hb b2;clear q2 b2 d0 d1 d2 d3 d4;obtain ⟨d0,d1,d2,d3,d4⟩:=hcl.out _ BM;have hv4:Hid (v=((List.range m.inn.length).all (fun j=>m.fits key (bits.getD j 0) j (l.getD j MV))&&decide (ats bits l).Nodup)):=(by show _=_;rw [hv3.out,hfm.out,aaM]);clear hv3 hfm hv hle d0 d1 d2 d3 d4
        rename World=>w9
        have q3:=yt w9;go_wp2_with fail;refine q3.mono ?_;rintro e w4 ⟨rfl,b4⟩;replace BM:=BM.below b4 BM.lt;replace hb:=ah hb b4;clear q3 b4;dsimp only
        repeat (first | (refine aG (by rfl) (by rfl) (by rfl) (by rfl) (bP (X:=dI) uh rfl XT) ?_) | go_step)
        obtain ⟨gh,hgh⟩:∃ g,g=w4.heap.size:=⟨_,rfl⟩
        have BH:Blk (w4.alloc (.cells dI 155)) gh 155 dI:=Blk.new w4 _ _ _ hgh;replace BM:=BM.alloc (.cells dI 155);replace hb:=bAl hb (.cells dI 155);rw [←hgh];generalize w4.alloc (.cells dI 155)=w5 at *;clear hgh;unfold dI at BH;go_wp2_with fail
        go_loopw [13,82] (fun row i wr=>∃ (k:Nat) (v0:Value),k≤bits.length∧i = .int .i64 k∧row=v0∧Below W.heap.size W wr∧Blk wr W.heap.size 47 M∧Blk wr gh 155 #[.string fE,.func (.func 183) #[] #[],.func (.func 184) #[] #[],.func (.func 185) #[] #[],.string dB,.func (.func 186) #[] #[],.func (.func 187) #[] #[],.func (.func 188) #[] #[]] ∧
         wr.ownsRow W.heap.size 218 2 v0 k (((ats bits l).take k).flatMap y9)∧Hid (∀ j,j<k→m.fits key (bits.getD j 0) j (l.getD j MV)=true)) (fun _ i _=>bits.length - (intOf i).toNat)
        case atStart=>exact ⟨0,_,aao _,rfl,rfl,hb,BM,BH,World.ownsRow_nil _ _ _ _,aab (fun j h=>by omega)⟩
        case round =>
         clear hb BM BH;obtain ⟨k,v0,hk,rfl,rfl,hb,BM,BH,hown,hF⟩:=hrel;by_cases hlt:k<bits.length
         ·obtain ⟨b,hbk⟩:∃ b,Hid (bits[k]?=some b):=⟨_,aab (aac hlt)⟩
          have hkl:k<l.length:=(by have:=hln.out;omega);obtain ⟨o,hok0⟩:∃ o,Hid (l[k]?=some o):=⟨_,aab (aac hkl)⟩
          have hb01:b=0∨b=1:=tZ.1 (aau.1 hx5.out b (aam hbk.out));have hoo:=hok o (aam hok0.out);obtain ⟨b0,o0,rfl,l0,k0⟩:=jq (hA.below hb) hlt hbk.out;obtain ⟨bo,oo,rfl,lo,ko⟩:=Wl (hC.below hb) hok hkl hok0.out;have hbz:=hb.size;have hX:=jG (o:=o) hoo.2.2.2.2.1;have hXo:∀ v∈o.cl.toArray.toList,v.oneCell'=true:=(by simpa using Opn.one o);have hXl:Hid (∀ w',Below wr.heap.size wr w'→(Instr.loadAt 158 (.pointer (some ⟨bo,oo+k*36,none⟩))).run prog w' = .ok (.agg o.cl.toArray) w'):=aab (fun w' h=>Po (fun j u hj=>(h.cell (p:=⟨bo,oo+k*36+j,none⟩) (by show bo<_;omega)).trans (ko j u hj)) hoo);have i0:(0:Int)≤(k:Int):=(by omega);have i1:(k:Int)<(bits.length:Int):=(by omega);have i2:(k:Int)<(l.length:Int):=(by omega);go_upto_region 15 with fail;clear k0;obtain ⟨X,hXd⟩:∃ X,o.cl.toArray=X:=⟨_,rfl⟩
          rw [hXd] at hX hXo hXl;rcases hb01 with rfl | rfl
          ·
           go_cut [16,17] from 87 to 93 (fun s16 s17 wc=>∃ g1 g2,s16 = .pointer (some ⟨g1,0,none⟩)∧s17 = .pointer (some ⟨g2,0,none⟩)∧Blk wc g1 158 X∧Blk wc g2 154 #[.string fE,.func (.func 183) #[] #[],.func (.func 184) #[] #[],.func (.func 185) #[] #[]]∧Below wr.heap.size wr wc)
           case first =>
            obtain ⟨H4,hH4d⟩:∃ H4:Array Value,H4=#[.string fE,.func (.func 183) #[] #[],.func (.func 184) #[] #[],.func (.func 185) #[] #[]]:=⟨_,rfl⟩
            have hH4s:H4.size=4:=by rw [hH4d];rfl
            have hH4:∀ v∈H4.toList,v.oneCell'=true:=by
             intro v hv;rw [hH4d] at hv;simp only [aaq,aaw,or_false] at hv;rcases hv with rfl | rfl | rfl | rfl <;> rfl
            have KS:Hid (∀ w',Below wr.heap.size wr w'→((Instr.loadAt 158 (.pointer (some ⟨bo,oo+k*36,none⟩))).run prog w' = .ok (.agg X) w'∧w'.cell? ⟨gh,0,none⟩=some (.string fE)∧w'.cell? ⟨gh,1,none⟩=some (.func (.func 183) #[] #[])∧w'.cell? ⟨gh,2,none⟩=some (.func (.func 184) #[] #[])∧w'.cell? ⟨gh,3,none⟩=some (.func (.func 185) #[] #[]))) :=
             aab (fun w' h=>⟨hXl.out _ h,(BH.below h BH.lt).cell 0,(BH.below h BH.lt).cell 1,(BH.below h BH.lt).cell 2,(BH.below h BH.lt).cell 3⟩)
            refine fA (g:=4) KS [(0,1),(1,1),(2,1),(3,2),(4,1),(5,1),(6,2)] ?_;simp only [bf,aap,aar];refine ae ?_;refine ae ?_;refine ae ?_;refine az (v:=?vq1) (hv:=?hq1) ?_;case hq1=>(intro w hSw;(first | refine (af rfl rfl hSw).trans ?_ | refine (af rfl rfl hSw.1).trans ?_ | refine (af rfl rfl hSw.2.1).trans ?_ | refine (af rfl rfl hSw.2.2.1).trans ?_ | refine (af rfl rfl hSw.2).trans ?_ | refine (af rfl rfl hSw.2.2).trans ?_);with_reducible rfl)
            refine ae ?_;refine ae ?_;refine az ?_;rw [←hH4d];have hH4h:=aab hH4d;clear hH4d;have B0:Below wr.heap.size wr wr.drew:=bDr (aj _);generalize wr.drew=v0 at *;refine Cc (i:=7) (j:=8) ⟨_,rfl,fun K hK=>?_⟩ ⟨_,rfl,fun K hK=>?_⟩
            ·go_simp
             change K _ (World.alloc v0 (.cells dD.cl.toArray 158));obtain ⟨a1,ha1⟩:∃ a,a=v0.heap.size:=⟨_,rfl⟩
             have F1:=Blk.new v0 158 dD.cl.toArray a1 ha1;have B1:=Below.alloc B0 (Below.size B0) (.cells dD.cl.toArray 158);have hz1:wr.heap.size≤a1:=(by rw [ha1];exact Below.size B0);rw [←ha1];clear ha1;refine aH hK KS ?_;clear hK K;generalize World.alloc v0 (.cells dD.cl.toArray 158)=v1 at *;refine dS (i:=8) ⟨_,rfl,fun K hK=>?_⟩;go_simp;change K _ (World.alloc v1 (.cells eF 154));obtain ⟨a2,ha2⟩:∃ a,a=v1.heap.size:=⟨_,rfl⟩
             have F2:=Blk.new v1 154 eF a2 ha2;have O2:=Blk.alloc F1 (.cells eF 154);have hne2:a1<a2:=(by rw [ha2];exact Blk.lt F1);have B2:=Below.alloc B1 (Below.size B1) (.cells eF 154);have hz2:wr.heap.size≤a2:=(by rw [ha2];exact Below.size B1);rw [←ha2];clear ha2;refine aH hK KS ?_;clear hK K;generalize World.alloc v1 (.cells eF 154)=v2 at *;refine dS (i:=9) ⟨_,rfl,fun K hK=>?_⟩;refine bD (by rfl) (by rfl) (by rfl) (by rfl) (aQ (X:=X) O2 (by rw [hX];exact iK) (by rw [hX];exact jG (eH 32)) hXo) ?_;simp only [aa2,aa4,aa5];have F3:=Blk.row O2 X;have O3:=Blk.farRow (g':=a1) F2 (by omega) X;have B3:=below_setRow B2 (show wr.heap.size≤a1 by omega) X;refine aH hK KS ?_;clear hK K;generalize World.setRow v2 a1 X=v3 at *;refine dS (i:=10) ⟨_,rfl,fun K hK=>?_⟩;refine bD (by rfl) (by rfl) (by rfl) (by rfl) (aQ (X:=H4) O3 (by rw [hH4s];exact qJ) (by rw [hH4s];rfl) hH4) ?_;simp only [aa2,aa4,aa5];have F4:=Blk.row O3 H4;have O4:=Blk.farRow (g':=a2) F3 (by omega) H4;have B4:=below_setRow B3 (show wr.heap.size≤a2 by omega) H4;refine aH hK KS ?_;clear hK K;generalize World.setRow v3 a2 H4=v4 at *;refine jk ?_;refine NoPanic.normal ?_;go_wp2_with fail;go_meet;rw [hH4h.out] at F4;exact ⟨_,_,rfl,rfl,O4,F4,B4⟩
            ·go_simp
             change K _ (World.alloc v0 (.cells eF 154));obtain ⟨a1,ha1⟩:∃ a,a=v0.heap.size:=⟨_,rfl⟩
             have F1:=Blk.new v0 154 eF a1 ha1;have B1:=Below.alloc B0 (Below.size B0) (.cells eF 154);have hz1:wr.heap.size≤a1:=(by rw [ha1];exact Below.size B0);rw [←ha1];clear ha1;refine aH hK KS ?_;clear hK K;generalize World.alloc v0 (.cells eF 154)=v1 at *;refine dS (i:=7) ⟨_,rfl,fun K hK=>?_⟩;go_simp;change K _ (World.alloc v1 (.cells dD.cl.toArray 158));obtain ⟨a2,ha2⟩:∃ a,a=v1.heap.size:=⟨_,rfl⟩
             have F2:=Blk.new v1 158 dD.cl.toArray a2 ha2;have O2:=Blk.alloc F1 (.cells dD.cl.toArray 158);have hne2:a1<a2:=(by rw [ha2];exact Blk.lt F1);have B2:=Below.alloc B1 (Below.size B1) (.cells dD.cl.toArray 158);have hz2:wr.heap.size≤a2:=(by rw [ha2];exact Below.size B1);rw [←ha2];clear ha2;refine aH hK KS ?_;clear hK K;generalize World.alloc v1 (.cells dD.cl.toArray 158)=v2 at *;refine dS (i:=9) ⟨_,rfl,fun K hK=>?_⟩;refine bD (by rfl) (by rfl) (by rfl) (by rfl) (aQ (X:=X) F2 (by rw [hX];exact iK) (by rw [hX];exact jG (eH 32)) hXo) ?_;simp only [aa2,aa4,aa5];have F3:=Blk.row F2 X;have O3:=Blk.farRow (g':=a2) O2 (by omega) X;have B3:=below_setRow B2 (show wr.heap.size≤a2 by omega) X;refine aH hK KS ?_;clear hK K;generalize World.setRow v2 a2 X=v3 at *;refine dS (i:=10) ⟨_,rfl,fun K hK=>?_⟩;refine bD (by rfl) (by rfl) (by rfl) (by rfl) (aQ (X:=H4) O3 (by rw [hH4s];exact qJ) (by rw [hH4s];rfl) hH4) ?_;simp only [aa2,aa4,aa5];have F4:=Blk.row O3 H4;have O4:=Blk.farRow (g':=a1) F3 (by omega) H4;have B4:=below_setRow B3 (show wr.heap.size≤a1 by omega) H4;refine aH hK KS ?_;clear hK K;generalize World.setRow v3 a1 H4=v4 at *;refine jk ?_;refine NoPanic.normal ?_;go_wp2_with fail;go_meet;rw [hH4h.out] at F4;exact ⟨_,_,rfl,rfl,O4,F4,B4⟩
           case rest =>
            obtain ⟨g1,g2,rfl,rfl,BO,BF,hbc⟩:=hcut;replace BM:=BM.below hbc BM.lt;replace BH:=BH.below hbc BH.lt;replace hown:=aC hown hbc;replace hb:=ah hb hbc;have hX0:X[0]?=some (.int .i64 o.at_):=by rw [←hXd];exact (by simpa using o.cells.1)
            have HNo:Hid (m.fits key 0 k o=false→v=false):=by
             intro h;rw [hv4.out,abt];refine .inl (abn.2 ⟨k,aaE.2 (by have:=hln.out;omega),?_⟩);rw [aS hbk.out,aS hok0.out,h];simp
            have hfd:Hid (m.fits key 0 k o=(decide (0≤o.at_∧o.at_<(m.inn.length:Int))&&(decide (m.left.getD k []=nX fE o)&&(gG key (m.inn.getD o.at_.toNat aB) o.r0 o.r1 o.r2).eqB (m.mid.getD k aB)))):=aab rfl;have hbz2:=hb.size;go_upto_region 16 with fail;by_cases hat:0≤o.at_∧o.at_<(m.inn.length:Int)
            rotate_left 1
            ·have hno:Hid (v=false):=HNo.out (by rw [hfd.out,decide_eq_false hat];rfl)
             clear HNo hfd;by_cases ha0:o.at_<0
             ·skip
              have KS:Hid (∀ w',Below wc.heap.size wc w'→(w'.cell? ⟨g1,0,none⟩=some (.int .i64 o.at_)∧w'.cell? ⟨g2,2,none⟩=some (.func (.func 184) #[] #[])∧w'.cell? ⟨g2,0,none⟩=some (.string fE))):=aab (fun w' h=>⟨(BO.below h BO.lt).cell 0 |>.trans hX0,(BF.below h BF.lt).cell 2,(BF.below h BF.lt).cell 0⟩);refine aK (f:=23) KS [(0,1),(1,2),(2,1),(3,1),(4,1),(5,1),(6,1),(7,1),(8,1),(9,1),(10,1),(11,1),(15,1),(18,1),(19,1),(20,1),(12,0),(13,1),(14,1),(16,1),(17,1),(21,0),(22,1),(23,3)] ?_;simp only [bf,aap,aar];refine ak ?_;refine ax ?_
              iterate 2 refine ak ?_
              iterate 4 refine dC ?_
              iterate 2 refine ak ?_
              iterate 6 refine dC ?_
              refine au (fun K hK=>?_);go_simp;refine aH hK KS ?_;clear hK K
              iterate 4 refine dC ?_
              refine au (fun K hK=>?_);go_simp;refine aH hK KS ?_;clear hK K;refine dC ?_;refine aN ?_
              first | simp only [aak] | simp only [aat,aak]
              go_wp2_with fail;refine NoPanic.normal ?_;go_wp2_with fail;go_ret;exact ⟨aI hno.out.symm,bDr hb⟩
             ·have ha1:(m.inn.length:Int)≤o.at_:=by omega
              have KS:Hid (∀ w',Below wc.heap.size wc w'→(w'.cell? ⟨g1,0,none⟩=some (.int .i64 o.at_)∧w'.cell? ⟨g2,2,none⟩=some (.func (.func 184) #[] #[])∧w'.cell? ⟨g2,0,none⟩=some (.string fE))):=aab (fun w' h=>⟨(BO.below h BO.lt).cell 0 |>.trans hX0,(BF.below h BF.lt).cell 2,(BF.below h BF.lt).cell 0⟩);refine aK (f:=23) KS [(0,1),(1,2),(2,1),(3,1),(4,1),(5,2),(6,1),(7,1),(8,1),(9,1),(10,1),(11,1),(15,1),(18,1),(19,1),(20,1),(12,0),(13,1),(14,1),(16,1),(17,1),(21,0),(22,1),(23,3)] ?_;simp only [bf,aap,aar];refine ak ?_;refine ax ?_
              iterate 3 refine ak ?_
              refine ax ?_
              iterate 4 refine ak ?_
              iterate 6 refine dC ?_
              refine au (fun K hK=>?_);go_simp;refine aH hK KS ?_;clear hK K
              iterate 4 refine dC ?_
              refine au (fun K hK=>?_);go_simp;refine aH hK KS ?_;clear hK K;refine dC ?_;refine aN ?_
              first | simp only [aak] | simp only [aat,aak]
              go_wp2_with fail;refine NoPanic.normal ?_;go_wp2_with fail;go_ret;exact ⟨aI hno.out.symm,bDr hb⟩
            obtain ⟨i,hi⟩:∃ i:Nat,o.at_=(i:Int):=⟨o.at_.toNat,by omega⟩
            have hil:i<m.inn.length:=(by omega);rw [decide_eq_true hat,aaM,hi,aba] at hfd;rw [hi] at hX0;obtain ⟨dk,hdk⟩:∃ dk,m.left[k]?=some dk:=⟨_,aac (by have:=hln.out;omega)⟩
            obtain ⟨x,hx⟩:∃ x,Hid (m.inn[i]?=some x):=⟨_,aab (aac (by have:=hln.out;omega))⟩
            obtain ⟨y,hy⟩:∃ y,Hid (m.mid[k]?=some y):=⟨_,aab (aac (by have:=hln.out;omega))⟩
            rw [aS hdk,aS hx.out,aS hy.out] at hfd;have hdko:=hM.d3 dk (aam hdk);obtain ⟨bd,od,ed,ld,kd⟩:=zf hM.r3 hM.d3 (by have:=hln.out;omega) hdk;have hcm:=(hcl.out _ BM)
            rw [ed] at hcm;have hYl:=rZ fE o;have q1:Hid (∀ w',Calls prog 184 #[.pointer (some ⟨W.heap.size,0,none⟩)] w' (Same (.pointer (some ⟨W.heap.size,3,none⟩)) w')):=aab (fun w'=>Na W.heap.size W.heap.size w' rfl)
            have q2:Hid (∀ w',Below wc.heap.size wc w'→Calls prog 141 #[.string fE,.agg X] w' (Ret (dig (nX fE o)) w')):=aab (fun w' h=>by
             have:=uf fE o w' hoo (by decide) (hG.below (ah hb h))
             rwa [hXd] at this)
            have hcells:Hid (X[0]?=some (.int .i64 (i:Nat))∧X[1]?=some (.int .i64 o.r0)∧X[2]?=some (.int .i64 o.r1)∧X[3]?=some (.int .i64 o.r2)):=aab ⟨hX0,by rw [←hXd];exact (by simpa using o.cells.2.1),by rw [←hXd];exact (by simpa using o.cells.2.2.1),by rw [←hXd];exact (by simpa using o.cells.2.2.2.1)⟩
            have KS:Hid (∀ w',Below wc.heap.size wc w'→((Instr.loadAt 158 (.pointer (some ⟨g1,0,none⟩))).run prog w' = .ok (.agg X) w'∧(Instr.loadAt 29 (.pointer (some ⟨bd,od+k*32,none⟩))).run prog w' = .ok (.agg (ag dk).toArray) w'∧w'.cell? ⟨g1,0,none⟩=some (.int .i64 (i:Nat))∧w'.cell? ⟨g2,2,none⟩=some (.func (.func 184) #[] #[])∧w'.cell? ⟨g2,0,none⟩=some (.string fE)∧w'.cell? ⟨W.heap.size,3,none⟩=some (.slice (some ⟨bd,od,none⟩) m.left.length s.c3))) :=
             aab (fun w' h=>⟨bg (BO.below h BO.lt) underlying158 rfl (by rw [hX];exact iK),fF (fun j u hj=>(h.cell (p:=⟨bd,od+k*32+j,none⟩) (by show bd<_;omega)).trans ((hb.cell (p:=⟨bd,od+k*32+j,none⟩) ld).trans (kd j u hj))) hdko.1,((BO.below h BO.lt).cell 0).trans hX0,(BF.below h BF.lt).cell 2,(BF.below h BF.lt).cell 0,by
              have:=(hcl.out _ (BM.below h BM.lt)).2.2.2.1
              rwa [ed] at this⟩)
            have i3:(0:Int)≤(i:Int):=(by omega);have i4:(i:Int)<(m.inn.length:Int):=(by omega);have i5:(k:Int)<(m.left.length:Int):=(by have:=hln.out;omega);have hmx:m.mid.length=m.inn.length:=hln.out.1;have i3n:¬((i:Int)<0):=(by omega);have i4n:¬((m.inn.length:Int)≤(i:Int)):=(by omega);generalize nX fE o=Y at *;have hne:=zY dk Y hdko.1 hYl;have HNo2:Hid (decide (dk=Y)=false→v=false):=fun h=>HNo.out (by rw [hfd.out,h];rfl);have HNo3:Hid ((gG key x o.r0 o.r1 o.r2).eqB y=false→v=false):=fun h=>HNo.out (by rw [hfd.out,h,Bool.and_false]);generalize decide (dk=Y)=bE at *;unfold dig at q2;clear hdk hcm hX0 HNo hmx kd ed;refine aK (f:=23) KS [(0,1),(1,2),(2,1),(3,1),(4,1),(5,2),(6,1),(7,1),(8,1),(9,1),(10,1),(11,2),(15,1),(18,1),(19,2),(20,2),(12,0),(13,1),(14,2),(16,1),(17,2),(21,0),(22,1),(23,3)] ?_;simp only [bf,aap,aar];refine ak ?_;refine ax ?_
            iterate 3 refine ak ?_
            refine ax ?_
            iterate 5 refine ak ?_
            refine ax ?_
            iterate 2 refine ak ?_
            refine ax ?_;refine ax (v:=?vq2) (hv:=?hq2) ?_;case hq2=>(intro w hSw;(first | refine (af rfl rfl hSw).trans ?_ | refine (af rfl rfl hSw.1).trans ?_ | refine (af rfl rfl hSw.2.1).trans ?_ | refine (af rfl rfl hSw.2.2.1).trans ?_ | refine (af rfl rfl hSw.2).trans ?_ | refine (af rfl rfl hSw.2.2).trans ?_);with_reducible rfl)
            refine au (fun K hK=>?_);go_simp;(first | (go_at_call 184;(with_reducible refine (q1.out _).mono ?_);rintro e w6 ⟨rfl,rfl⟩) | (go_at_call 141;(with_reducible refine (q2.out _ (by with_reducible exact bDr (aj _))).mono ?_);rintro e w6 ⟨rfl,b6⟩;have B6:Below wc.heap.size wc w6:=ah (bDr (aj _)) b6) | skip);refine aH hK KS ?_;clear hK K;refine ak ?_;refine ax ?_;refine ak ?_;refine ax (v:=?vq3) (hv:=?hq3) ?_;case hq3=>(intro w hSw;(first | refine (af rfl rfl hSw).trans ?_ | refine (af rfl rfl hSw.1).trans ?_ | refine (af rfl rfl hSw.2.1).trans ?_ | refine (af rfl rfl hSw.2.2.1).trans ?_ | refine (af rfl rfl hSw.2).trans ?_ | refine (af rfl rfl hSw.2.2).trans ?_);with_reducible rfl)
            refine au (fun K hK=>?_);go_simp;(first | (go_at_call 184;(with_reducible refine (q1.out _).mono ?_);rintro e w6 ⟨rfl,rfl⟩) | (go_at_call 141;(with_reducible refine (q2.out _ (by with_reducible exact bDr (aj _))).mono ?_);rintro e w6 ⟨rfl,b6⟩;have B6:Below wc.heap.size wc w6:=ah (bDr (aj _)) b6) | skip);refine aH hK KS ?_;clear hK K;refine ak ?_;refine aN ?_
            first | simp only [aak] | simp only [aat,aak]
            clear q1 q2 KS hne;replace BM:=BM.below B6 BM.lt;replace BH:=BH.below B6 BH.lt;replace BO:=BO.below B6 BO.lt;replace BF:=BF.below B6 BF.lt;replace hown:=aC hown B6;replace hb:=ah hb B6;clear B6 b6;cases bE with
            | false =>
             have hno:=aab (HNo2.out rfl);go_wp2_with fail;refine NoPanic.normal ?_;go_wp2_with fail;go_ret;exact ⟨aI hno.out.symm,hb⟩
            | true =>
             have hyes:Hid ((gG key x o.r0 o.r1 o.r2).eqB y=true→m.fits key 0 k o=true):=fun h=>(by rw [hfd.out,h];rfl);clear HNo2 hfd;have q3:=Rz s m W.heap.size k i o x y w6 (by rw [hMd];exact BM) ((hM.below hb).more hb.size) hi hx.out hy.out;rw [hXd] at q3;unfold Ltr.agg at q3;have l1:(Instr.loadAt 158 (.pointer (some ⟨g1,0,none⟩))).run prog w6 = .ok (.agg X) w6:=bg BO underlying158 rfl (by rw [hX];exact iK);have f3:w6.cell? ⟨g2,3,none⟩=some (.func (.func 185) #[] #[]):=BF.cell 3;go_wp2_with fail;refine NoPanic.normal ?_;go_upto_region 18 with fail;apply wp_region_lit
             iterate 9 go_step
             refine aP (by rfl) (by rfl) (by rfl) l1 ?_;simp only [Act.put,aaf,aai,aah];go_wp2_with fail;refine q3.mono ?_;rintro e w7 ⟨rfl,b7⟩;clear q3 l1 f3;have BX:=Blk.new w7 63 (dF x) _ rfl;have BY:=Blk.new (w7.alloc (.cells (dF x) 63)) 63 (dF y) (w7.heap.size+1) (by simp);replace BX:=BX.alloc (.cells (dF y) 63);have b8:=bAl (bAl b7 (.cells (dF x) 63)) (.cells (dF y) 63);replace BM:=BM.below b8 BM.lt;replace BH:=BH.below b8 BH.lt;replace BO:=BO.below b8 BO.lt;replace hown:=aC hown b8;replace hb:=ah hb b8;clear b7 b8 BF;go_upto_region 19 with fail;change Code.wp _ _ _ _ ((w7.alloc (.cells (dF x) 63)).alloc (.cells (dF y) 63));generalize (w7.alloc (.cells (dF x) 63)).alloc (.cells (dF y) 63)=w8 at *;obtain ⟨u0,u1,u2,u3,u4,u5⟩:=BX.six;have q4:=wG key x o.r0 o.r1 o.r2 w8;unfold Ltr.agg at q4;generalize gG key x o.r0 o.r1 o.r2=z at *;generalize oU key x=ez at *;obtain ⟨p0,p1,p2,p3⟩:=hcells.out;have r1:=(BO.cell 1).trans p1;have r2:=(BO.cell 2).trans p2;have r3:=(BO.cell 3).trans p3;go_wp2_with fail;refine q4.mono ?_;rintro e w9 ⟨rfl,b9⟩;clear q4 r1 r2 r3 u0 u1 u2 u3 u4 u5 p1 p2 p3;have BZ:=Blk.new w9 63 (dF z) _ rfl;have b10:=bAl b9 (.cells (dF z) 63);replace BM:=BM.below b10 BM.lt;replace BH:=BH.below b10 BH.lt;replace BO:=BO.below b10 BO.lt;replace BY:=BY.below b10 BY.lt;replace hown:=aC hown b10;replace hb:=ah hb b10;clear b9 b10 BX;go_upto_region 20 with fail;change Code.wp _ _ _ _ (w9.alloc (.cells (dF z) 63));generalize w9.alloc (.cells (dF z) 63)=w10 at *;obtain ⟨u0,u1,u2,u3,u4,u5⟩:=BZ.six
             obtain ⟨t0,t1,t2,t3,t4,t5⟩:=BY.six;have hq:=EX z y;unfold Ltr.agg at hq;generalize z.eqB y=bz at *;cases bz with
             | false =>
              have hno:=aab (HNo3.out rfl);go_wp2_with fail;go_ret;exact ⟨aI hno.out.symm,hb⟩
             | true =>
              have hft:=aab (hyes.out rfl);clear HNo3 hyes;have c0:=(BO.cell 0).trans p0
              have hsn:Hid (((ats bits l).take (k+1)).flatMap y9=((ats bits l).take k).flatMap y9++[.int .i64 0,.int .i64 (i:Nat)]):=by
               have:=Kr hbk.out hok0.out
               rw [hi] at this;obtain ⟨hk,e⟩:=aag.1 this;show _=_;rw [aaB hk,aaP,e];rfl
              have hone:∀ u∈([.int .i64 0,.int .i64 (i:Nat)]:List Value),u.oneCell'=true:=by
               intro u hu;simp only [aaq,aaw,or_false] at hu;rcases hu with rfl | rfl <;> rfl
              have h63:k+1≤maxLen:=(by unfold maxLen;omega);have hby:(k+1)*16≤140737488355328:=(by omega);have hsz:=hb.size;clear p0;go_wp2_with (at_builtin;refine aO w10 [.int .i64 0,.int .i64 (i:Nat)] (.tmp 137) (.tmp 142) 216 W.heap.size 218 (.agg #[.int .i64 0,.int .i64 0]) 2 16 _ k _ (by rfl) (by rfl) underlying216 Ce (by rfl) (by omega) (by rfl) hown (by rfl) rfl hone h63 hby hsz ?_;intro v' w' hown4 hg4)
              refine ⟨⟨k+1,_,by omega,by go_num,rfl,hb.trans (hg4.below hown hsz),hg4.blk hown BM (by decide),hg4.blk hown BH (by decide),by rw [hsn.out];exact hown4,aab (fun j hj=>?_)⟩,by simp [intOf];omega⟩;by_cases hjk:j=k
              ·subst hjk
               rw [aS hbk.out,aS hok0.out];exact hft.out
              ·exact hF.out j (by omega)
          ·
           go_cut [16,17] from 87 to 93 (fun s16 s17 wc=>∃ g1 g2,s16 = .pointer (some ⟨g1,0,none⟩)∧s17 = .pointer (some ⟨g2,0,none⟩)∧Blk wc g1 158 X∧Blk wc g2 154 #[.string dB,.func (.func 186) #[] #[],.func (.func 187) #[] #[],.func (.func 188) #[] #[]]∧Below wr.heap.size wr wc)
           case first =>
            obtain ⟨H4,hH4d⟩:∃ H4:Array Value,H4=#[.string dB,.func (.func 186) #[] #[],.func (.func 187) #[] #[],.func (.func 188) #[] #[]]:=⟨_,rfl⟩
            have hH4s:H4.size=4:=by rw [hH4d];rfl
            have hH4:∀ v∈H4.toList,v.oneCell'=true:=by
             intro v hv;rw [hH4d] at hv;simp only [aaq,aaw,or_false] at hv;rcases hv with rfl | rfl | rfl | rfl <;> rfl
            have KS:Hid (∀ w',Below wr.heap.size wr w'→((Instr.loadAt 158 (.pointer (some ⟨bo,oo+k*36,none⟩))).run prog w' = .ok (.agg X) w'∧w'.cell? ⟨gh,4,none⟩=some (.string dB)∧w'.cell? ⟨gh,5,none⟩=some (.func (.func 186) #[] #[])∧w'.cell? ⟨gh,6,none⟩=some (.func (.func 187) #[] #[])∧w'.cell? ⟨gh,7,none⟩=some (.func (.func 188) #[] #[]))) :=
             aab (fun w' h=>⟨hXl.out _ h,(BH.below h BH.lt).cell 4,(BH.below h BH.lt).cell 5,(BH.below h BH.lt).cell 6,(BH.below h BH.lt).cell 7⟩)
            refine fA (g:=4) KS [(0,1),(1,1),(2,1),(3,2),(4,1),(5,1),(6,2)] ?_;simp only [bf,aap,aar];refine ae ?_;refine ae ?_;refine ae ?_;refine az (v:=?vq4) (hv:=?hq4) ?_;case hq4=>(intro w hSw;(first | refine (af rfl rfl hSw).trans ?_ | refine (af rfl rfl hSw.1).trans ?_ | refine (af rfl rfl hSw.2.1).trans ?_ | refine (af rfl rfl hSw.2.2.1).trans ?_ | refine (af rfl rfl hSw.2).trans ?_ | refine (af rfl rfl hSw.2.2).trans ?_);with_reducible rfl)
            refine ae ?_;refine ae ?_;refine az ?_;rw [←hH4d];have hH4h:=aab hH4d;clear hH4d;have B0:Below wr.heap.size wr wr.drew:=bDr (aj _);generalize wr.drew=v0 at *;refine Cc (i:=7) (j:=8) ⟨_,rfl,fun K hK=>?_⟩ ⟨_,rfl,fun K hK=>?_⟩
            ·go_simp
             change K _ (World.alloc v0 (.cells dD.cl.toArray 158));obtain ⟨a1,ha1⟩:∃ a,a=v0.heap.size:=⟨_,rfl⟩
             have F1:=Blk.new v0 158 dD.cl.toArray a1 ha1;have B1:=Below.alloc B0 (Below.size B0) (.cells dD.cl.toArray 158);have hz1:wr.heap.size≤a1:=(by rw [ha1];exact Below.size B0);rw [←ha1];clear ha1;refine aH hK KS ?_;clear hK K;generalize World.alloc v0 (.cells dD.cl.toArray 158)=v1 at *;refine dS (i:=8) ⟨_,rfl,fun K hK=>?_⟩;go_simp;change K _ (World.alloc v1 (.cells eF 154));obtain ⟨a2,ha2⟩:∃ a,a=v1.heap.size:=⟨_,rfl⟩
             have F2:=Blk.new v1 154 eF a2 ha2;have O2:=Blk.alloc F1 (.cells eF 154);have hne2:a1<a2:=(by rw [ha2];exact Blk.lt F1);have B2:=Below.alloc B1 (Below.size B1) (.cells eF 154);have hz2:wr.heap.size≤a2:=(by rw [ha2];exact Below.size B1);rw [←ha2];clear ha2;refine aH hK KS ?_;clear hK K;generalize World.alloc v1 (.cells eF 154)=v2 at *;refine dS (i:=9) ⟨_,rfl,fun K hK=>?_⟩;refine bD (by rfl) (by rfl) (by rfl) (by rfl) (aQ (X:=X) O2 (by rw [hX];exact iK) (by rw [hX];exact jG (eH 32)) hXo) ?_;simp only [aa2,aa4,aa5];have F3:=Blk.row O2 X;have O3:=Blk.farRow (g':=a1) F2 (by omega) X;have B3:=below_setRow B2 (show wr.heap.size≤a1 by omega) X;refine aH hK KS ?_;clear hK K;generalize World.setRow v2 a1 X=v3 at *;refine dS (i:=10) ⟨_,rfl,fun K hK=>?_⟩;refine bD (by rfl) (by rfl) (by rfl) (by rfl) (aQ (X:=H4) O3 (by rw [hH4s];exact qJ) (by rw [hH4s];rfl) hH4) ?_;simp only [aa2,aa4,aa5];have F4:=Blk.row O3 H4;have O4:=Blk.farRow (g':=a2) F3 (by omega) H4;have B4:=below_setRow B3 (show wr.heap.size≤a2 by omega) H4;refine aH hK KS ?_;clear hK K;generalize World.setRow v3 a2 H4=v4 at *;refine jk ?_;refine NoPanic.normal ?_;go_wp2_with fail;go_meet;rw [hH4h.out] at F4;exact ⟨_,_,rfl,rfl,O4,F4,B4⟩
            ·go_simp
             change K _ (World.alloc v0 (.cells eF 154));obtain ⟨a1,ha1⟩:∃ a,a=v0.heap.size:=⟨_,rfl⟩
             have F1:=Blk.new v0 154 eF a1 ha1;have B1:=Below.alloc B0 (Below.size B0) (.cells eF 154);have hz1:wr.heap.size≤a1:=(by rw [ha1];exact Below.size B0);rw [←ha1];clear ha1;refine aH hK KS ?_;clear hK K;generalize World.alloc v0 (.cells eF 154)=v1 at *;refine dS (i:=7) ⟨_,rfl,fun K hK=>?_⟩;go_simp;change K _ (World.alloc v1 (.cells dD.cl.toArray 158));obtain ⟨a2,ha2⟩:∃ a,a=v1.heap.size:=⟨_,rfl⟩
             have F2:=Blk.new v1 158 dD.cl.toArray a2 ha2;have O2:=Blk.alloc F1 (.cells dD.cl.toArray 158);have hne2:a1<a2:=(by rw [ha2];exact Blk.lt F1);have B2:=Below.alloc B1 (Below.size B1) (.cells dD.cl.toArray 158);have hz2:wr.heap.size≤a2:=(by rw [ha2];exact Below.size B1);rw [←ha2];clear ha2;refine aH hK KS ?_;clear hK K;generalize World.alloc v1 (.cells dD.cl.toArray 158)=v2 at *;refine dS (i:=9) ⟨_,rfl,fun K hK=>?_⟩;refine bD (by rfl) (by rfl) (by rfl) (by rfl) (aQ (X:=X) F2 (by rw [hX];exact iK) (by rw [hX];exact jG (eH 32)) hXo) ?_;simp only [aa2,aa4,aa5];have F3:=Blk.row F2 X;have O3:=Blk.farRow (g':=a2) O2 (by omega) X;have B3:=below_setRow B2 (show wr.heap.size≤a2 by omega) X;refine aH hK KS ?_;clear hK K;generalize World.setRow v2 a2 X=v3 at *;refine dS (i:=10) ⟨_,rfl,fun K hK=>?_⟩;refine bD (by rfl) (by rfl) (by rfl) (by rfl) (aQ (X:=H4) O3 (by rw [hH4s];exact qJ) (by rw [hH4s];rfl) hH4) ?_;simp only [aa2,aa4,aa5];have F4:=Blk.row O3 H4;have O4:=Blk.farRow (g':=a1) F3 (by omega) H4;have B4:=below_setRow B3 (show wr.heap.size≤a1 by omega) H4;refine aH hK KS ?_;clear hK K;generalize World.setRow v3 a1 H4=v4 at *;refine jk ?_;refine NoPanic.normal ?_;go_wp2_with fail;go_meet;rw [hH4h.out] at F4;exact ⟨_,_,rfl,rfl,O4,F4,B4⟩
           case rest =>
            obtain ⟨g1,g2,rfl,rfl,BO,BF,hbc⟩:=hcut;replace BM:=BM.below hbc BM.lt;replace BH:=BH.below hbc BH.lt;replace hown:=aC hown hbc;replace hb:=ah hb hbc;have hX0:X[0]?=some (.int .i64 o.at_):=by rw [←hXd];exact (by simpa using o.cells.1)
            have HNo:Hid (m.fits key 1 k o=false→v=false):=by
             intro h;rw [hv4.out,abt];refine .inl (abn.2 ⟨k,aaE.2 (by have:=hln.out;omega),?_⟩);rw [aS hbk.out,aS hok0.out,h];simp
            have hfd:Hid (m.fits key 1 k o=(decide (0≤o.at_∧o.at_<(m.inn.length:Int))&&(decide (m.right.getD k []=nX dB o)&&(gG key (m.mid.getD k aB) o.r0 o.r1 o.r2).eqB (m.out.getD o.at_.toNat aB)))):=aab rfl;have hbz2:=hb.size;go_upto_region 16 with fail;by_cases hat:0≤o.at_∧o.at_<(m.inn.length:Int)
            rotate_left 1
            ·have hno:Hid (v=false):=HNo.out (by rw [hfd.out,decide_eq_false hat];rfl)
             clear HNo hfd;by_cases ha0:o.at_<0
             ·skip
              have KS:Hid (∀ w',Below wc.heap.size wc w'→(w'.cell? ⟨g1,0,none⟩=some (.int .i64 o.at_)∧w'.cell? ⟨g2,2,none⟩=some (.func (.func 187) #[] #[])∧w'.cell? ⟨g2,0,none⟩=some (.string dB))):=aab (fun w' h=>⟨(BO.below h BO.lt).cell 0 |>.trans hX0,(BF.below h BF.lt).cell 2,(BF.below h BF.lt).cell 0⟩);refine aK (f:=23) KS [(0,1),(1,2),(2,1),(3,1),(4,1),(5,1),(6,1),(7,1),(8,1),(9,1),(10,1),(11,1),(15,1),(18,1),(19,1),(20,1),(12,0),(13,1),(14,1),(16,1),(17,1),(21,0),(22,1),(23,3)] ?_;simp only [bf,aap,aar];refine ak ?_;refine ax ?_
              iterate 2 refine ak ?_
              iterate 4 refine dC ?_
              iterate 2 refine ak ?_
              iterate 6 refine dC ?_
              refine au (fun K hK=>?_);go_simp;refine aH hK KS ?_;clear hK K
              iterate 4 refine dC ?_
              refine au (fun K hK=>?_);go_simp;refine aH hK KS ?_;clear hK K;refine dC ?_;refine aN ?_
              first | simp only [aak] | simp only [aat,aak]
              go_wp2_with fail;refine NoPanic.normal ?_;go_wp2_with fail;go_ret;exact ⟨aI hno.out.symm,bDr hb⟩
             ·have ha1:(m.inn.length:Int)≤o.at_:=by omega
              have KS:Hid (∀ w',Below wc.heap.size wc w'→(w'.cell? ⟨g1,0,none⟩=some (.int .i64 o.at_)∧w'.cell? ⟨g2,2,none⟩=some (.func (.func 187) #[] #[])∧w'.cell? ⟨g2,0,none⟩=some (.string dB))):=aab (fun w' h=>⟨(BO.below h BO.lt).cell 0 |>.trans hX0,(BF.below h BF.lt).cell 2,(BF.below h BF.lt).cell 0⟩);refine aK (f:=23) KS [(0,1),(1,2),(2,1),(3,1),(4,1),(5,2),(6,1),(7,1),(8,1),(9,1),(10,1),(11,1),(15,1),(18,1),(19,1),(20,1),(12,0),(13,1),(14,1),(16,1),(17,1),(21,0),(22,1),(23,3)] ?_;simp only [bf,aap,aar];refine ak ?_;refine ax ?_
              iterate 3 refine ak ?_
              refine ax ?_
              iterate 4 refine ak ?_
              iterate 6 refine dC ?_
              refine au (fun K hK=>?_);go_simp;refine aH hK KS ?_;clear hK K
              iterate 4 refine dC ?_
              refine au (fun K hK=>?_);go_simp;refine aH hK KS ?_;clear hK K;refine dC ?_;refine aN ?_
              first | simp only [aak] | simp only [aat,aak]
              go_wp2_with fail;refine NoPanic.normal ?_;go_wp2_with fail;go_ret;exact ⟨aI hno.out.symm,bDr hb⟩
            obtain ⟨i,hi⟩:∃ i:Nat,o.at_=(i:Int):=⟨o.at_.toNat,by omega⟩
            have hil:i<m.inn.length:=(by omega);rw [decide_eq_true hat,aaM,hi,aba] at hfd;rw [hi] at hX0;obtain ⟨dk,hdk⟩:∃ dk,m.right[k]?=some dk:=⟨_,aac (by have:=hln.out;omega)⟩
            obtain ⟨x,hx⟩:∃ x,Hid (m.mid[k]?=some x):=⟨_,aab (aac (by have:=hln.out;omega))⟩
            obtain ⟨y,hy⟩:∃ y,Hid (m.out[i]?=some y):=⟨_,aab (aac (by have:=hln.out;omega))⟩
            rw [aS hdk,aS hx.out,aS hy.out] at hfd;have hdko:=hM.d4 dk (aam hdk);obtain ⟨bd,od,ed,ld,kd⟩:=zf hM.r4 hM.d4 (by have:=hln.out;omega) hdk;have hcm:=(hcl.out _ BM)
            rw [ed] at hcm;have hYl:=rZ dB o;have q1:Hid (∀ w',Calls prog 187 #[.pointer (some ⟨W.heap.size,0,none⟩)] w' (Same (.pointer (some ⟨W.heap.size,4,none⟩)) w')):=aab (fun w'=>Ig W.heap.size W.heap.size w' rfl)
            have q2:Hid (∀ w',Below wc.heap.size wc w'→Calls prog 141 #[.string dB,.agg X] w' (Ret (dig (nX dB o)) w')):=aab (fun w' h=>by
             have:=uf dB o w' hoo (by decide) (hG.below (ah hb h))
             rwa [hXd] at this)
            have hcells:Hid (X[0]?=some (.int .i64 (i:Nat))∧X[1]?=some (.int .i64 o.r0)∧X[2]?=some (.int .i64 o.r1)∧X[3]?=some (.int .i64 o.r2)):=aab ⟨hX0,by rw [←hXd];exact (by simpa using o.cells.2.1),by rw [←hXd];exact (by simpa using o.cells.2.2.1),by rw [←hXd];exact (by simpa using o.cells.2.2.2.1)⟩
            have KS:Hid (∀ w',Below wc.heap.size wc w'→((Instr.loadAt 158 (.pointer (some ⟨g1,0,none⟩))).run prog w' = .ok (.agg X) w'∧(Instr.loadAt 29 (.pointer (some ⟨bd,od+k*32,none⟩))).run prog w' = .ok (.agg (ag dk).toArray) w'∧w'.cell? ⟨g1,0,none⟩=some (.int .i64 (i:Nat))∧w'.cell? ⟨g2,2,none⟩=some (.func (.func 187) #[] #[])∧w'.cell? ⟨g2,0,none⟩=some (.string dB)∧w'.cell? ⟨W.heap.size,4,none⟩=some (.slice (some ⟨bd,od,none⟩) m.right.length s.c4))) :=
             aab (fun w' h=>⟨bg (BO.below h BO.lt) underlying158 rfl (by rw [hX];exact iK),fF (fun j u hj=>(h.cell (p:=⟨bd,od+k*32+j,none⟩) (by show bd<_;omega)).trans ((hb.cell (p:=⟨bd,od+k*32+j,none⟩) ld).trans (kd j u hj))) hdko.1,((BO.below h BO.lt).cell 0).trans hX0,(BF.below h BF.lt).cell 2,(BF.below h BF.lt).cell 0,by
              have:=(hcl.out _ (BM.below h BM.lt)).2.2.2.2
              rwa [ed] at this⟩)
            have i3:(0:Int)≤(i:Int):=(by omega);have i4:(i:Int)<(m.inn.length:Int):=(by omega);have i5:(k:Int)<(m.right.length:Int):=(by have:=hln.out;omega);have hmx:m.mid.length=m.inn.length:=hln.out.1;have i3n:¬((i:Int)<0):=(by omega);have i4n:¬((m.inn.length:Int)≤(i:Int)):=(by omega);generalize nX dB o=Y at *;have hne:=zY dk Y hdko.1 hYl;have HNo2:Hid (decide (dk=Y)=false→v=false):=fun h=>HNo.out (by rw [hfd.out,h];rfl);have HNo3:Hid ((gG key x o.r0 o.r1 o.r2).eqB y=false→v=false):=fun h=>HNo.out (by rw [hfd.out,h,Bool.and_false]);generalize decide (dk=Y)=bE at *;unfold dig at q2;clear hdk hcm hX0 HNo hmx kd ed;refine aK (f:=23) KS [(0,1),(1,2),(2,1),(3,1),(4,1),(5,2),(6,1),(7,1),(8,1),(9,1),(10,1),(11,2),(15,1),(18,1),(19,2),(20,2),(12,0),(13,1),(14,2),(16,1),(17,2),(21,0),(22,1),(23,3)] ?_;simp only [bf,aap,aar];refine ak ?_;refine ax ?_
            iterate 3 refine ak ?_
            refine ax ?_
            iterate 5 refine ak ?_
            refine ax ?_
            iterate 2 refine ak ?_
            refine ax ?_;refine ax (v:=?vq5) (hv:=?hq5) ?_;case hq5=>(intro w hSw;(first | refine (af rfl rfl hSw).trans ?_ | refine (af rfl rfl hSw.1).trans ?_ | refine (af rfl rfl hSw.2.1).trans ?_ | refine (af rfl rfl hSw.2.2.1).trans ?_ | refine (af rfl rfl hSw.2).trans ?_ | refine (af rfl rfl hSw.2.2).trans ?_);with_reducible rfl)
            refine au (fun K hK=>?_);go_simp;(first | (go_at_call 187;(with_reducible refine (q1.out _).mono ?_);rintro e w6 ⟨rfl,rfl⟩) | (go_at_call 141;(with_reducible refine (q2.out _ (by with_reducible exact bDr (aj _))).mono ?_);rintro e w6 ⟨rfl,b6⟩;have B6:Below wc.heap.size wc w6:=ah (bDr (aj _)) b6) | skip);refine aH hK KS ?_;clear hK K;refine ak ?_;refine ax ?_;refine ak ?_;refine ax (v:=?vq6) (hv:=?hq6) ?_;case hq6=>(intro w hSw;(first | refine (af rfl rfl hSw).trans ?_ | refine (af rfl rfl hSw.1).trans ?_ | refine (af rfl rfl hSw.2.1).trans ?_ | refine (af rfl rfl hSw.2.2.1).trans ?_ | refine (af rfl rfl hSw.2).trans ?_ | refine (af rfl rfl hSw.2.2).trans ?_);with_reducible rfl)
            refine au (fun K hK=>?_);go_simp;(first | (go_at_call 187;(with_reducible refine (q1.out _).mono ?_);rintro e w6 ⟨rfl,rfl⟩) | (go_at_call 141;(with_reducible refine (q2.out _ (by with_reducible exact bDr (aj _))).mono ?_);rintro e w6 ⟨rfl,b6⟩;have B6:Below wc.heap.size wc w6:=ah (bDr (aj _)) b6) | skip);refine aH hK KS ?_;clear hK K;refine ak ?_;refine aN ?_
            first | simp only [aak] | simp only [aat,aak]
            clear q1 q2 KS hne;replace BM:=BM.below B6 BM.lt;replace BH:=BH.below B6 BH.lt;replace BO:=BO.below B6 BO.lt;replace BF:=BF.below B6 BF.lt;replace hown:=aC hown B6;replace hb:=ah hb B6;clear B6 b6;cases bE with
            | false =>
             have hno:=aab (HNo2.out rfl);go_wp2_with fail;refine NoPanic.normal ?_;go_wp2_with fail;go_ret;exact ⟨aI hno.out.symm,hb⟩
            | true =>
             have hyes:Hid ((gG key x o.r0 o.r1 o.r2).eqB y=true→m.fits key 1 k o=true):=fun h=>(by rw [hfd.out,h];rfl);clear HNo2 hfd;have q3:=RD s m W.heap.size k i o x y w6 (by rw [hMd];exact BM) ((hM.below hb).more hb.size) hi hx.out hy.out;rw [hXd] at q3;unfold Ltr.agg at q3;have l1:(Instr.loadAt 158 (.pointer (some ⟨g1,0,none⟩))).run prog w6 = .ok (.agg X) w6:=bg BO underlying158 rfl (by rw [hX];exact iK);have f3:w6.cell? ⟨g2,3,none⟩=some (.func (.func 188) #[] #[]):=BF.cell 3;go_wp2_with fail;refine NoPanic.normal ?_;go_upto_region 18 with fail;apply wp_region_lit
             iterate 9 go_step
             refine aP (by rfl) (by rfl) (by rfl) l1 ?_;simp only [Act.put,aaf,aai,aah];go_wp2_with fail;refine q3.mono ?_;rintro e w7 ⟨rfl,b7⟩;clear q3 l1 f3;have BX:=Blk.new w7 63 (dF x) _ rfl;have BY:=Blk.new (w7.alloc (.cells (dF x) 63)) 63 (dF y) (w7.heap.size+1) (by simp);replace BX:=BX.alloc (.cells (dF y) 63);have b8:=bAl (bAl b7 (.cells (dF x) 63)) (.cells (dF y) 63);replace BM:=BM.below b8 BM.lt;replace BH:=BH.below b8 BH.lt;replace BO:=BO.below b8 BO.lt;replace hown:=aC hown b8;replace hb:=ah hb b8;clear b7 b8 BF;go_upto_region 19 with fail;change Code.wp _ _ _ _ ((w7.alloc (.cells (dF x) 63)).alloc (.cells (dF y) 63));generalize (w7.alloc (.cells (dF x) 63)).alloc (.cells (dF y) 63)=w8 at *;obtain ⟨u0,u1,u2,u3,u4,u5⟩:=BX.six;have q4:=wG key x o.r0 o.r1 o.r2 w8;unfold Ltr.agg at q4;generalize gG key x o.r0 o.r1 o.r2=z at *;generalize oU key x=ez at *;obtain ⟨p0,p1,p2,p3⟩:=hcells.out;have r1:=(BO.cell 1).trans p1;have r2:=(BO.cell 2).trans p2;have r3:=(BO.cell 3).trans p3;go_wp2_with fail;refine q4.mono ?_;rintro e w9 ⟨rfl,b9⟩;clear q4 r1 r2 r3 u0 u1 u2 u3 u4 u5 p1 p2 p3;have BZ:=Blk.new w9 63 (dF z) _ rfl;have b10:=bAl b9 (.cells (dF z) 63);replace BM:=BM.below b10 BM.lt;replace BH:=BH.below b10 BH.lt;replace BO:=BO.below b10 BO.lt;replace BY:=BY.below b10 BY.lt;replace hown:=aC hown b10;replace hb:=ah hb b10;clear b9 b10 BX;go_upto_region 20 with fail;change Code.wp _ _ _ _ (w9.alloc (.cells (dF z) 63));generalize w9.alloc (.cells (dF z) 63)=w10 at *;obtain ⟨u0,u1,u2,u3,u4,u5⟩:=BZ.six
             obtain ⟨t0,t1,t2,t3,t4,t5⟩:=BY.six;have hq:=EX z y;unfold Ltr.agg at hq;generalize z.eqB y=bz at *;cases bz with
             | false =>
              have hno:=aab (HNo3.out rfl);go_wp2_with fail;go_ret;exact ⟨aI hno.out.symm,hb⟩
             | true =>
              have hft:=aab (hyes.out rfl);clear HNo3 hyes;have c0:=(BO.cell 0).trans p0
              have hsn:Hid (((ats bits l).take (k+1)).flatMap y9=((ats bits l).take k).flatMap y9++[.int .i64 1,.int .i64 (i:Nat)]):=by
               have:=Kr hbk.out hok0.out
               rw [hi] at this;obtain ⟨hk,e⟩:=aag.1 this;show _=_;rw [aaB hk,aaP,e];rfl
              have hone:∀ u∈([.int .i64 1,.int .i64 (i:Nat)]:List Value),u.oneCell'=true:=by
               intro u hu;simp only [aaq,aaw,or_false] at hu;rcases hu with rfl | rfl <;> rfl
              have h63:k+1≤maxLen:=(by unfold maxLen;omega);have hby:(k+1)*16≤140737488355328:=(by omega);have hsz:=hb.size;clear p0;go_wp2_with (at_builtin;refine aO w10 [.int .i64 1,.int .i64 (i:Nat)] (.tmp 137) (.tmp 142) 216 W.heap.size 218 (.agg #[.int .i64 0,.int .i64 0]) 2 16 _ k _ (by rfl) (by rfl) underlying216 Ce (by rfl) (by omega) (by rfl) hown (by rfl) rfl hone h63 hby hsz ?_;intro v' w' hown4 hg4)
              refine ⟨⟨k+1,_,by omega,by go_num,rfl,hb.trans (hg4.below hown hsz),hg4.blk hown BM (by decide),hg4.blk hown BH (by decide),by rw [hsn.out];exact hown4,aab (fun j hj=>?_)⟩,by simp [intOf];omega⟩;by_cases hjk:j=k
              ·subst hjk
               rw [aS hbk.out,aS hok0.out];exact hft.out
              ·exact hF.out j (by omega)
         ·obtain rfl:k=bits.length:=by omega
          have hal:=Kt (bits:=bits) (l:=l) (by have:=hln.out;omega);rw [aaH (by omega)] at hown;obtain ⟨A2,c2,hv2,hR,_⟩:=Sl.of_own hown;subst hv2
          have q5:=RG A2 c2 (ats bits l) wr (by rw [hal];exact hR) (fun p hp=>by
           obtain ⟨j,hj⟩:=List.getElem?_of_mem hp;have hjl:j<bits.length:=(by have:=(aag.1 hj).1;omega);have e:=Kr (aac hjl) (aac (show j<l.length by have:=hln.out;omega));rw [hj] at e;injection e with e
           rw [e];have h1:=tZ.1 (aau.1 hx5.out bits[j] (List.getElem_mem hjl));exact ⟨RH (by rcases h1 with h1 | h1 <;> (rw [h1];unfold inI;omega)),RH (hok _ (List.getElem_mem _)).1⟩) (by have:=hln.out;omega)
          rw [hal] at q5
          have hvv:Hid (v=decide (ats bits l).Nodup):=by
           show _=_;rw [hv4.out,aau.2 (fun j hj=>hF.out j (by have:=aaE.1 hj;have:=hln.out;omega)),aaM]
          generalize decide (ats bits l).Nodup=r at *;go_wp2_with fail;refine q5.mono ?_;rintro e w6 ⟨rfl,b6⟩;go_wp2_with fail;go_ret;exact ⟨aI hvv.out.symm,ah hb b6⟩
end
section
open Go.RowKit
def RJ (e:TypeId) (sz n:Nat) (xs:List Value) (w:World) (r:Ending) (w':World):Prop:=∃ v,r = .returned v∧Below w.heap.size w w'∧w'.ownsRow w.heap.size e sz v n xs
theorem FH (A:Option Addr) (n c:Nat) (l:List It) (W:World) (hA:Rd W W.heap.size 4 A n (l.flatMap It.cells)) (hok:∀ x∈l,x.ok) (hn:n≤1000) :
  Calls prog 118 #[gJ A n c] W (fun r w'=>∃ v,r = .returned (.tuple #[v,.int .i64 0])∧Below W.heap.size W w'∧w'.ownsRow W.heap.size 5 1 v (bZ l).length (ag (bZ l))):=by
 have BX:=Blk.new W 169 #[.int .i64 3,.int .i64 0,.string ⟨#[]⟩,.slice A n c] _ rfl;have hb1:=bAl (aj W) (.cells #[.int .i64 3,.int .i64 0,.string ⟨#[]⟩,.slice A n c] 169);have q:=AA A n c l _ ((hA.alloc (aad _) (.cells #[.int .i64 3,.int .i64 0,.string ⟨#[]⟩,.slice A n c] 169)).more (by simp)) (by omega);unfold gJ at q ⊢;go_enter func118,ntmps118;go_wp2_with fail
 with_reducible refine q.mono ?_
 rintro e w2 ⟨rfl,b2⟩;have hb2:=ah hb1 b2;have BX2:=BX.below b2 BX.lt;clear q hb1 b2 BX;go_wp2_with fail;have d0:w2.cell? ⟨W.heap.size,0,none⟩=some (.int .i64 3):=BX2.cell 0;have d1:w2.cell? ⟨W.heap.size,1,none⟩=some (.int .i64 0):=BX2.cell 1;have d2:w2.cell? ⟨W.heap.size,2,none⟩=some (.string ⟨#[]⟩):=BX2.cell 2;have d3:w2.cell? ⟨W.heap.size,3,none⟩=some (.slice A n c):=BX2.cell 3;have hlt:=BX2.lt;go_cut [2,3] (fun s2 s3 wc=>∃ v,s2=v∧s3 = .int .i64 0∧Below W.heap.size W wc∧wc.ownsRow W.heap.size 5 1 v (bZ l).length (ag (bZ l)))
 case first =>
  go_region_with (first
   | (go_at_call 196;refine (AB _).mono ?_;rintro e w3 ⟨rfl,b3,hw3⟩;have BX3:=BX2.below ((bDr (aj w2)).trans b3) hlt;obtain ⟨f0,f1,f2,f3⟩:=dY BX3;have hw4:WrB w3 w2.heap.size:=hw3;have g3:=hw4.list;have hb3:=(bDr hb2).trans (b3.mono hb2.size);have hs3:W.heap.size≤w3.heap.size:=hb3.size;clear b3)
   | (go_at_call 251;refine (AC A n c _ l _ ((hA.below hb3).more hb3.size) hw4 hok hn).mono ?_;rintro e w4 ⟨v,rfl,hown4,b4⟩;have hb4:=ah hb3 b4))
  all_goals
   go_wp2_with fail;go_meet;exact ⟨_,rfl,rfl,hb4,own_base hown4 hs3⟩
 case rest =>
  obtain ⟨v,rfl,rfl,hb,hv⟩:=hcut;go_wp2_with fail;go_ret2;exact ⟨_,rfl,hb,hv⟩
end
end Go.Proofs.YthbibbkbaphpkaaGreatDoor

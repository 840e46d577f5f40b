/- Letters and digests compared by '=='. -/
import Derived.Test.YthbibbkbaphpkaaGreatDoorMae
import Derived.ChangeKeysEq
import Derived.Laws.IdiomStrings
import Derived.Lib.SlBytesRow
set_option maxHeartbeats 16000000
set_option maxRecDepth 1000000
namespace Go.Proofs.YthbibbkbaphpkaaGreatDoor
open _root_.Go.Proofs.Tryz
section
open Go Go.RowKit
theorem QT (d:Nat) (a b c e:Int) (w:World):(Op.equalIn (d+1+1) 61 (.agg #[.int .i64 a,.int .i64 b]) (.agg #[.int .i64 c,.int .i64 e])).run prog w = .ok (a==c&&b==e) w:=by
 have hS:prog.underlying 61=some (.struct (prog.fieldsOf 61)):=by kernel_rfl
 have hp:prog.stoodInHeld 61=false:=by kernel_rfl
 have u3:=underlying3;have a3:=isAgg3;have z3:=sizeOf3;rw [run_equalIn_agg w (d+1) 61 _ _ hS hp];simp only [Program.fieldsOf,underlying61];go_simp;by_cases h1:a=c <;> by_cases h2:b=e <;> simp [h1,h2]
theorem QU (x y:Ltr) (w:World):(Op.equalIn 10000 63 x.agg y.agg).run prog w = .ok ((x.a0==y.a0&&x.b0==y.b0)&&((x.a1==y.a1&&x.b1==y.b1)&&(x.a2==y.a2&&x.b2==y.b2))) w:=by
 have a3:=isAgg61;have z3:=sizeOf61;unfold Ltr.agg;rw [show (10000:Nat)=9999+1 from rfl,Op.equalIn];simp only [Sem.run_bind,run_underlying underlying63,Result.andThen_ok];simp only [Std.Legacy.Range.forIn_eq_forIn_range',Std.Legacy.Range.size,Nat.sub_zero,Nat.add_sub_cancel,Nat.div_one,List.range'_succ,List.range'_zero,List.forIn_cons,List.forIn_nil];have e1:=fun (a b c e:Int)=>QT 9997 a b c e w;go_simp;by_cases h0:x.a0=y.a0
 ·by_cases h1 : x.b0 = y.b0
  ·by_cases h2 : x.a1 = y.a1
   ·by_cases h3 : x.b1 = y.b1
    ·by_cases h4 : x.a2 = y.a2
     ·by_cases h5:x.b2=y.b2
      ·simp [h0,h1,h2,h3,h4,h5]
      ·simp [h0,h1,h2,h3,h4,h5]
     ·simp [h0,h1,h2,h3,h4]
    ·simp [h0,h1,h2,h3]
   ·simp [h0,h1,h2]
  ·simp [h0,h1]
 ·simp [h0]
def Ltr.eqB (x y:Ltr):Bool:=(x.a0==y.a0&&x.b0==y.b0)&&((x.a1==y.a1&&x.b1==y.b1)&&(x.a2==y.a2&&x.b2==y.b2))
theorem Ltr.eqB_iff {x y:Ltr} : x.eqB y=true↔x=y:=by
 cases x;cases y
 simp [Ltr.eqB,and_assoc]
theorem EX (x y:Ltr) (w:World):(binOp .neq 63 x.agg y.agg).run prog w = .ok (.bool (!(x.eqB y))) w:=by
 show (binOp .neq 63 x.agg y.agg).run prog w=_;have h:=QU x y w;unfold Ltr.agg at h ⊢;rw [run_neq_struct,h];rfl
theorem qE (d:Nat) (a b:List Nat) (w:World):∀ is:List Nat,(∀ i∈is,i<a.length∧i<b.length) →
  (Op.eqItems (d+1) 5 1 (ag a).toArray (ag b).toArray is).run prog w = .ok (is.all fun i=>a.getD i 0==b.getD i 0) w
 | [],_=>by simp [Op.eqItems]
 | i::is,h=>by
  obtain ⟨h1,h2⟩:=h i (by simp);have ih:=qE d a b w is (fun j hj=>h j (by simp [hj]));have a5:=isAgg5;have x1:(ag a).toArray[i*1]?=some (.int .u8 (a.getD i 0:Nat)):=by simp [ag,h1]
  have x2:(ag b).toArray[i*1]?=some (.int .u8 (b.getD i 0:Nat)):=by simp [ag,h2]
  have p1:(part 5 (ag a).toArray (i*1)).run prog w = .ok (.int .u8 (a.getD i 0:Nat)) w:=by simp only [part,Sem.run_bind,a5,Result.andThen_ok];rw [x1];simp
  have p2:(part 5 (ag b).toArray (i*1)).run prog w = .ok (.int .u8 (b.getD i 0:Nat)) w:=by simp only [part,Sem.run_bind,a5,Result.andThen_ok];rw [x2];simp
  simp only [Op.eqItems,Sem.run_bind,p1,p2,Result.andThen_ok,run_equalIn_int w d 5 .u8 .u8 _ _ underlying5]
  have e:(((a.getD i 0:Nat):Int)==((b.getD i 0:Nat):Int))=(a.getD i 0==b.getD i 0):=by
   generalize a.getD i 0=m;generalize b.getD i 0=n;rw [abb,beq_iff_eq,beq_iff_eq];omega
  rw [List.all_cons,e];cases (a.getD i 0==b.getD i 0)
  ·simp
  ·simpa using ih
theorem QV {a b:List Nat} (ha:a.length=32) (hb:b.length=32):((List.range 32).all fun i=>a.getD i 0==b.getD i 0)=decide (a=b):=by
 rw [abb,aau,decide_eq_true_eq];constructor
 ·intro h
  apply List.ext_getElem?;intro i;rcases aa0 i 32 with hi | hi
  ·have:=h i (aaE.2 hi)
   rw [beq_iff_eq,aaU,aaU] at this;rw [aac (by omega),aac (by omega)] at this ⊢;exact congrArg some this
  ·rw [abA (by omega),abA (by omega)]
 ·rintro rfl i _
  simp
theorem UH (a b:List Nat) (ha:a.length=32) (hb:b.length=32) (w:World):(binOp .eql 29 (.agg (ag a).toArray) (.agg (ag b).toArray)).run prog w = .ok (.bool (decide (a=b))) w:=by
 obtain ⟨i0,hi⟩:∃ i,prog.info? 5=some i:=info_of_underlying underlying5;have hc:prog.cellsOf 5=1:=by kernel_rfl
 have h2:(Op.equalIn 10000 29 (.agg (ag a).toArray) (.agg (ag b).toArray)).run prog w = .ok (decide (a=b)) w:=by
  rw [show (10000:Nat)=9998+1+1 from rfl,run_equalIn_array w (9998+1) _ _ underlying29 hi,hc,qE 9998 a b w _ (by intro i hi;have:=aaE.1 hi;omega),QV ha hb]
 rw [run_eql_struct,h2];rfl
end
section
open Go.RowKit
def dgB (d:List Nat):List UInt8:=d.map fun n=>UInt8.ofNat n
def dgS (d:List Nat):ByteArray:=⟨(dgB d).toArray⟩
inductive Nd where
 | int (n:Int)
 | dig (d:List Nat)
def Nd.val:Nd→Value
 | .int n => .iface 3 (.int .i64 n)
 | .dig d => .iface 29 (.agg (ag d).toArray)
def Nd.it:Nd→It
 | .int n => .int n
 | .dig d => .text (dgS d)
def Nd.ok:Nd→Prop
 | .int n=>inI n
 | .dig d=>d.length=32∧okB d
theorem Nd.it_ok {x:Nd} (h:x.ok):x.it.ok:=by
 cases x with
 | int n=>exact h
 | dig d=>show (dgS d).size≤1000000;obtain ⟨h1,_⟩:=h;simp [dgS,dgB,ByteArray.size,h1]
theorem JU {d:List Nat} (h:okB d) (j:Nat) (hj:j<(dgB d).length):((dgB d)[j].toNat:Int)=(d.getD j 0:Nat):=by
 have hj':j<d.length:=by simpa [dgB] using hj
 have:=h d[j] (List.getElem_mem hj')
 simp [dgB,hj',aaR this]
theorem yY {w:World} {g:Nat} {d:List Nat} (h:Blk w g 29 (ag d).toArray) (hl:d.length=32) (ho:okB d):(convert 83 9 (.slice (some ⟨g,0,none⟩) 32 32)).run prog w = .ok (.string (dgS d)) w:=by
 have:=run_convert_bytes_back (P:=prog) w 83 9 5 ⟨g,0,none⟩ 32 (dgB d) underlying83 underlying5 underlying9 (fun j hj=>by
  have hj':j<d.length:=by simpa [dgB] using hj
  rw [dX,aax,h.cell j,JU ho j hj];simp [ag,hj'])
 rw [show (dgB d).length=32 by simp [dgB,hl]] at this;exact this
theorem assert_int (m:Int) (w:World):(Instr.typeAssert (.iface 3 (.int .i64 m)) 20 3 true).run prog w = .ok (.tuple #[.int .i64 m,.bool true]) w:=by kernel_rfl
theorem uz (cs:Array Value) (w:World):(Instr.typeAssert (.iface 29 (.agg cs)) 20 3 true).run prog w = .ok (.tuple #[.int .i64 0,.bool false]) w:=by kernel_rfl
theorem Bc (cs:Array Value) (w:World):(Instr.typeAssert (.iface 29 (.agg cs)) 20 29 true).run prog w = .ok (.tuple #[.agg cs,.bool true]) w:=by kernel_rfl
structure Lnk where
 node:Int
 no:Int
 prev:List Nat
 data:List Nat
def fQ (d:List Nat):ByteArray:=⟨(d.map Nat.toUInt8).toArray⟩
def Lnk.its (x:Lnk):List It:=[.int x.node,.int x.no,.text (dgS x.prev),.text (fQ x.data)]
def uA:ByteArray:=⟨#[110,111,110,101]⟩
def rG:ByteArray:=⟨#[108,105,110,107]⟩
def fV (l:List Lnk):List Nat:=match l.getLast? with
 | none=>dP (sb uA) []
 | some x=>dP (sb rG) (bZ x.its)
def Hl (l:List Lnk) (i:Nat) (x:Lnk):Bool :=
 decide (x.node=(l.headD x).node)&&decide (0≤x.node)&&decide (x.node<24)&&decide (x.no=(i:Int))&&decide (x.data.length≤65536)&&decide (x.prev=fV (l.take i))
structure Ofc where
 no:Int
 secret:Int
 chain:List Lnk
 used:List (List Nat)
end
def uS {α:Type} : List Nat→List α→List α→List α
 | p::ps,v::vs,l=>uS ps vs (l.set p v)
 | _,_,l=>l
theorem rH {α:Type} : ∀ (ps:List Nat) (vs l:List α),(uS ps vs l).length=l.length
 | [],_,_=>by rfl
 | _::_,[],_=>rfl
 | p::ps,v::vs,l=>by
  show (uS ps vs (l.set p v)).length=_;rw [rH ps vs,List.length_set]
theorem Hm {α:Type} : ∀ (ps:List Nat) (vs l:List α) (k:Nat),k ∉ ps→(uS ps vs l)[k]?=l[k]?
 | [],_,_,_,_=>by rfl
 | _::_,[],_,_,_=>rfl
 | p::ps,v::vs,l,k,h=>by
  rw [aaq,not_or] at h;show (uS ps vs (l.set p v))[k]?=_;rw [Hm ps vs _ k h.2,List.getElem?_set,if_neg (fun e=>h.1 e.symm)]
theorem EY {α:Type} : ∀ (ps:List Nat) (vs l:List α) (j k:Nat) (v:α),ps.Nodup→ps[j]?=some k→vs[j]?=some v→k<l.length→(uS ps vs l)[k]?=some v
 | [],_,_,_,_,_,_,h,_,_=>by simp at h
 | _::_,[],_,_,_,_,_,_,h,_=>by simp at h
 | p::ps,u::vs,l,0,k,v,hn,hp,hv,hk=>by
  simp only [aap,Option.some.injEq] at hp hv;subst hp hv;show (uS ps vs (l.set p u))[p]?=_;rw [Hm ps vs _ p (List.nodup_cons.1 hn).1,List.getElem?_set_self hk]
 | p::ps,u::vs,l,j+1,k,v,hn,hp,hv,hk=>EY ps vs (l.set p u) j k v (List.nodup_cons.1 hn).2 (by simpa using hp) (by simpa using hv) (by rw [List.length_set];exact hk)
theorem yf {α:Type} : ∀ (ps:List Nat) (vs l:List α) (p:Nat) (v:α),ps.length=vs.length→uS (ps++[p]) (vs++[v]) l=(uS ps vs l).set p v
 | [],[],_,_,_,_=>rfl
 | [],_::_,_,_,_,h=>by simp at h
 | _::_,[],_,_,_,h=>by simp at h
 | q::ps,u::vs,l,p,v,h=>by
  show uS (ps++[p]) (vs++[v]) (l.set q u)=(uS ps vs (l.set q u)).set p v;exact yf ps vs _ p v (by simpa using h)
def nS (l:List Int):Bool:=l.all (fun x=>decide (0≤x∧x<(l.length:Int)))&&decide l.Nodup
theorem pV {l:List Int} (h:nS l=true):∃ ns:List Nat,l=ns.map (Nat.cast:Nat→Int)∧ns.Nodup∧(∀ x∈ns,x<ns.length)∧ns.length=l.length:=by
 unfold nS at h;rw [aal,aau,decide_eq_true_eq] at h;obtain ⟨h1,h2⟩:=h;have hb:∀ x∈l,0≤x∧x<(l.length:Int):=fun x hx=>of_decide_eq_true (h1 x hx)
 have he:l=(l.map Int.toNat).map (Nat.cast:Nat→Int):=by
  rw [List.map_map];refine (List.map_id l).symm.trans (List.map_congr_left fun x hx=>?_)
  have:=hb x hx
  show x=((x.toNat:Nat):Int);omega
 refine ⟨l.map Int.toNat,he,?_,?_,by rw [aaQ]⟩
 ·have:=he▸h2
  exact (List.pairwise_map.1 this).imp (fun h e=>h (by rw [e]))
 ·intro x hx
  obtain ⟨y,hy,rfl⟩:=aaK.1 hx
  have:=hb y hy
  rw [aaQ];omega
theorem tV {α:Type} {l:List α} (h:l.Nodup) {i j:Nat} (hi:i<l.length) (hj:j<l.length) (e:l[i]=l[j]):i=j:=by
 rcases Nat.lt_trichotomy i j with h1 | h1 | h1
 ·exact absurd e (abp.1 h i j hi hj h1)
 ·exact h1
 ·exact absurd e.symm (abp.1 h j i hj hi h1)
theorem MM {ns:List Nat} {n k:Nat} (hn:ns.Nodup) (hb:∀ x∈ns,x<n) (hl:ns.length=n) (hk:k<n):∃ j:Nat,ns[j]?=some k:=by
 have hs:ns ⊆ List.range n:=fun x hx=>aaE.2 (hb x hx)
 have hm:k∈ns:=by
  refine Classical.byContradiction fun hc=>?_;have h2:(k::ns).Nodup:=List.nodup_cons.2 ⟨hc,hn⟩
  have h3:∀ x∈k::ns,x<n:=fun x hx=>by
   rcases aaq.1 hx with rfl | h
   ·exact hk
   ·exact hb x h
  have h4:=h2.length_le_of_subset (l₂:=List.range n) (fun x hx=>aaE.2 (h3 x hx));rw [aas,List.length_range] at h4;omega
 obtain ⟨j,hj,e⟩:=List.mem_iff_getElem.1 hm;exact ⟨j,by rw [aac hj,e]⟩
section
open Go.RowKit
def Ltr.inP (x:Ltr):Prop:=(Proofs.YthbibbkbaphpkaaGreatDoor.inP x.a0∧Proofs.YthbibbkbaphpkaaGreatDoor.inP x.b0)∧(Proofs.YthbibbkbaphpkaaGreatDoor.inP x.a1∧Proofs.YthbibbkbaphpkaaGreatDoor.inP x.b1)∧Proofs.YthbibbkbaphpkaaGreatDoor.inP x.a2∧Proofs.YthbibbkbaphpkaaGreatDoor.inP x.b2
def mD (n:Int) (y:Ltr) (k:Fin 3):Ltr:=match k with
 | 0=>{ y with b0:=fU [y.b0,aJ y.a0 (-n)] }
 | 1=>{ y with b1:=fU [y.b1,aJ y.a1 (-n)] }
 | 2=>{ y with b2:=fU [y.b2,aJ y.a2 (-n)] }
def lw (key r0 r1 r2:Int) (y:Ltr) (k:Fin 3):Ltr:=match k with
 | 0=>{ y with a0:=fU [y.a0,aJ 4 r0],b0:=fU [y.b0,aJ key r0] }
 | 1=>{ y with a1:=fU [y.a1,aJ 4 r1],b1:=fU [y.b1,aJ key r1] }
 | 2=>{ y with a2:=fU [y.a2,aJ 4 r2],b2:=fU [y.b2,aJ key r2] }
theorem JV (n:Int) (y:Ltr) (k:Fin 3) (h:y.inP):(mD n y k).inP:=by
 obtain ⟨⟨h1,h2⟩,⟨h3,h4⟩,h5,h6⟩:=h
 match k with
 | 0=>exact ⟨⟨h1,iC _⟩,⟨h3,h4⟩,h5,h6⟩
 | 1=>exact ⟨⟨h1,h2⟩,⟨h3,iC _⟩,h5,h6⟩
 | 2=>exact ⟨⟨h1,h2⟩,⟨h3,h4⟩,h5,iC _⟩
theorem OT (key r0 r1 r2:Int) (y:Ltr) (k:Fin 3) (h:y.inP):(lw key r0 r1 r2 y k).inP:=by
 obtain ⟨⟨h1,h2⟩,⟨h3,h4⟩,h5,h6⟩:=h
 match k with
 | 0=>exact ⟨⟨iC _,iC _⟩,⟨h3,h4⟩,h5,h6⟩
 | 1=>exact ⟨⟨h1,h2⟩,⟨iC _,iC _⟩,h5,h6⟩
 | 2=>exact ⟨⟨h1,h2⟩,⟨h3,h4⟩,iC _,iC _⟩
theorem Hq {x:Ltr} (h:x.good=true):x.inP:=by
 unfold Ltr.good at h;simp only [aal] at h;obtain ⟨⟨⟨h1,h2⟩,h3,h4⟩,h5,h6⟩:=h;have k:∀ {a:Int},aA a=true→Proofs.YthbibbkbaphpkaaGreatDoor.inP a:=fun h=>by obtain ⟨h1,h2⟩:=iy h;exact ⟨by omega,h2⟩
 exact ⟨⟨k h1,k h2⟩,⟨k h3,k h4⟩,k h5,k h6⟩
theorem OU (n:Int) (hn:1≤n∧n<1073741789) (nb:Nat) (W:World) (hB:Blk W nb 3 #[.int .i64 n]) :
  QS 124 #[.pointer (some ⟨nb,0,none⟩)] W Ltr.inP (mD n):=by
 intro k y s Wc hb hs hG c;obtain ⟨⟨h1,h2⟩,⟨h3,h4⟩,h5,h6⟩:=hG;have hBc:=hB.below hb hB.lt
 match k with
 | 0=>exact (JP Wc 0 nb s 0 n y.a0 y.b0 hn h2 (hBc.cell 0) (c.cell 0) (c.cell 1) (c.frozen 1) hBc.lt c.lt).mono fun e w' ⟨he,w1,b,hw⟩=>⟨he,by rw [hw];exact fC b _ _ _,by rw [hw];exact (c.below b c.lt).set_ 1 _⟩
 | 1=>exact (JP Wc 1 nb s 2 n y.a1 y.b1 hn h4 (hBc.cell 0) (c.cell 2) (c.cell 3) (c.frozen 3) hBc.lt c.lt).mono fun e w' ⟨he,w1,b,hw⟩=>⟨he,by rw [hw];exact fC b _ _ _,by rw [hw];exact (c.below b c.lt).set_ 3 _⟩
 | 2=>exact (JP Wc 2 nb s 4 n y.a2 y.b2 hn h6 (hBc.cell 0) (c.cell 4) (c.cell 5) (c.frozen 5) hBc.lt c.lt).mono fun e w' ⟨he,w1,b,hw⟩=>⟨he,by rw [hw];exact fC b _ _ _,by rw [hw];exact (c.below b c.lt).set_ 5 _⟩
theorem QW (key r0 r1 r2:Int) (kb rb:Nat) (W:World) (hK:Blk W kb 3 #[.int .i64 key]) (hR:Blk W rb 94 #[.int .i64 r0,.int .i64 r1,.int .i64 r2]) :
  QS 198 #[.pointer (some ⟨rb,0,none⟩),.pointer (some ⟨kb,0,none⟩)] W Ltr.inP (lw key r0 r1 r2):=by
 intro k y s Wc hb hs hG c;obtain ⟨⟨h1,h2⟩,⟨h3,h4⟩,h5,h6⟩:=hG;have hKc:=hK.below hb hK.lt;have hRc:=hR.below hb hR.lt
 match k with
 | 0=>exact (more1 Wc 0 0 kb rb s 0 key r0 y.a0 y.b0 (.inl ⟨rfl,rfl⟩) h1 h2 (hKc.cell 0) (hRc.cell 0) (c.cell 0) (c.cell 1) (c.frozen 0) (c.frozen 1) hKc.lt hRc.lt c.lt).mono fun e w' ⟨he,w1,b,hw⟩=>⟨he,by rw [hw];exact grownBy_set (fC b _ _ _) _ _,by rw [hw];exact ((c.below b c.lt).set_ 0 _).set_ 1 _⟩
 | 1=>exact (more1 Wc 1 1 kb rb s 2 key r1 y.a1 y.b1 (.inr (.inl ⟨rfl,rfl⟩)) h3 h4 (hKc.cell 0) (hRc.cell 1) (c.cell 2) (c.cell 3) (c.frozen 2) (c.frozen 3) hKc.lt hRc.lt c.lt).mono fun e w' ⟨he,w1,b,hw⟩=>⟨he,by rw [hw];exact grownBy_set (fC b _ _ _) _ _,by rw [hw];exact ((c.below b c.lt).set_ 2 _).set_ 3 _⟩
 | 2=>exact (more1 Wc 2 2 kb rb s 4 key r2 y.a2 y.b2 (.inr (.inr ⟨rfl,rfl⟩)) h5 h6 (hKc.cell 0) (hRc.cell 2) (c.cell 4) (c.cell 5) (c.frozen 4) (c.frozen 5) hKc.lt hRc.lt c.lt).mono fun e w' ⟨he,w1,b,hw⟩=>⟨he,by rw [hw];exact grownBy_set (fC b _ _ _) _ _,by rw [hw];exact ((c.below b c.lt).set_ 4 _).set_ 5 _⟩
theorem Hr (key r0 r1 r2:Int) (w:World) :
  Calls prog 133 #[.int .i64 key,.agg #[.int .i64 r0,.int .i64 r1,.int .i64 r2]] w fun r w' =>
   r = .returned (.func (.func 198) #[] #[.pointer (some ⟨w.heap.size+1,0,none⟩),.pointer (some ⟨w.heap.size,0,none⟩)])∧w'=(w.alloc (.cells #[.int .i64 key] 3)).alloc (.cells #[.int .i64 r0,.int .i64 r1,.int .i64 r2] 94):=by
 have hmf:∀ (fn:Fn) (first cap:Array Value) (w:World),(Instr.makeFunc fn first cap).run prog w = .ok (.func fn first cap) w:=fun _ _ _ _=>rfl;go_enter func133,ntmps133;go_wp2
 go_ret;exact ⟨rfl,rfl⟩
def stripL (n:Int) (x:Ltr):Ltr:=mD n (mD n (mD n x 0) 1) 2
def rJ (n:Int) (x:Ltr):Ltr:=if iO n=true then (if x.good=true then stripL n x else aB) else aB
def rM (n:Int) (x:Ltr):Int:=if iO n=true then (if x.good=true then 0 else 100) else 110
theorem rO {n:Int} (h:iO n=true):1≤n∧n<1073741789:=of_decide_eq_true h
theorem nT {x y:Ltr} {a b:Int} (h:x=y) (h':a=b):Ending.returned (.tuple #[y.agg,.int .i64 b]) = .returned (.tuple #[x.agg,.int .i64 a]):=by rw [h,h']
theorem wF (n:Int) (x:Ltr) (W:World) :
  Calls prog 40 #[.int .i64 n,x.agg] W (Ret (.tuple #[(rJ n x).agg,.int .i64 (rM n x)]) W):=by
 have hmf:∀ (fn:Fn) (first cap:Array Value) (w:World),(Instr.makeFunc fn first cap).run prog w = .ok (.func fn first cap) w:=fun _ _ _ _=>rfl;obtain ⟨W3,hW3⟩:∃ W3,W3=((W.alloc (.cells #[.int .i64 n] 3)).alloc (.cells #[.int .i64 x.a0,.int .i64 x.b0,.int .i64 x.a1,.int .i64 x.b1,.int .i64 x.a2,.int .i64 x.b2] 63)).alloc (.cells #[.int .i64 0,.int .i64 0,.int .i64 0,.int .i64 0,.int .i64 0,.int .i64 0] 63):=⟨_,rfl⟩
 have h3:Below W.heap.size W W3:=by rw [hW3];exact bAl (bAl (bAl (aj W) _) _) _
 obtain ⟨v,hv⟩:∃ v,v=rJ n x:=⟨_,rfl⟩
 obtain ⟨er,her⟩:∃ v,v=rM n x:=⟨_,rfl⟩
 rw [←hv,←her];cases hs:iO n
 ·have Hv:Hid (v=aB):=by show _=_;rw [hv];exact if_neg (by simp [hs])
  have He:Hid (er=110):=by show _=_;rw [her];exact if_neg (by simp [hs])
  have q:=xZ n W3;have H3:=aab h3;rw [hs] at q;rw [hW3] at q H3;clear hv her h3 hW3 W3;go_enter func40,ntmps40;unfold Ltr.agg;go_wp2_with fail;refine q.mono ?_;rintro e w' ⟨rfl,rfl⟩;clear q;go_wp2_with fail;exact bodyPost_ret (v := .tuple #[aB.agg,.int .i64 110]) (by simp [results,results40,go_sem,aB,Ltr.agg]) rfl ⟨nT Hv.out He.out,H3.out⟩
 ·have q:=xZ n W3
  have q2:=rF x W3;have B3:Blk W3 (W.heap.size+1) 63 #[.int .i64 x.a0,.int .i64 x.b0,.int .i64 x.a1,.int .i64 x.b1,.int .i64 x.a2,.int .i64 x.b2]:=by rw [hW3];exact (Blk.new _ _ _ _ (by simp)).alloc _
  have B4:Blk W3 (W.heap.size+1+1) 63 #[.int .i64 0,.int .i64 0,.int .i64 0,.int .i64 0,.int .i64 0,.int .i64 0]:=by rw [hW3];exact Blk.new _ _ _ _ (by simp)
  have B2:Blk W3 W.heap.size 3 #[.int .i64 n]:=by rw [hW3];exact ((Blk.new _ _ _ _ rfl).alloc _).alloc _
  rw [hs] at q;cases hg:x.good
  ·have Hv:Hid (v=aB):=by show _=_;rw [hv];unfold rJ;rw [hs,hg];rfl
   have He:Hid (er=100):=(by show _=_;rw [her];unfold rM;rw [hs,hg];rfl);have hx:x.err=100:=(by unfold Ltr.err;rw [hg];rfl);rw [hx] at q2;clear hv her hs hg hx;go_enter func40,ntmps40;unfold Ltr.agg;go_upto_region 1 with fail;rw [←hW3];clear hW3;have c2:=B2.cell 0;obtain ⟨k0,k1,k2,k3,k4,k5⟩:=B3.six;obtain ⟨m0,m1,m2,m3,m4,m5⟩:=B4.six;go_wp2_with fail;refine q.mono ?_;rintro e w' ⟨rfl,rfl⟩;clear q;go_wp2_with fail;refine q2.mono ?_;rintro e w4 ⟨rfl,b4⟩;clear q2;have h4:=ah h3 b4;have C4:=B4.below b4 B4.lt;clear k0 k1 k2 k3 k4 k5 m0 m1 m2 m3 m4 m5 c2;obtain ⟨m0,m1,m2,m3,m4,m5⟩:=C4.six;obtain ⟨z0,z1,z2,z3,z4,z5⟩:=C4.six_free;have C5:=C4.set6 (.int .i64 0) (.int .i64 0) (.int .i64 0) (.int .i64 0) (.int .i64 0) (.int .i64 0);have h5:=mG (b:=W.heap.size+1+1) h4 (by omega) (.int .i64 0) (.int .i64 0) (.int .i64 0) (.int .i64 0) (.int .i64 0) (.int .i64 0);go_wp2_with fail;change bodyPost _ _ _ _ _ (set6 w4 (W.heap.size+1+1) (.int .i64 0) (.int .i64 0) (.int .i64 0) (.int .i64 0) (.int .i64 0) (.int .i64 0));obtain ⟨e0,e1,e2,e3,e4,e5⟩:=C5.six;exact bodyPost_ret (v := .tuple #[aB.agg,.int .i64 100]) (by simp [results,results40,go_sem,aB,Ltr.agg,e0,e1,e2,e3,e4,e5]) rfl ⟨nT Hv.out He.out,h5⟩
  ·have Hv:Hid (v=stripL n x):=by show _=_;rw [hv];unfold rJ;rw [hs,hg];rfl
   have He:Hid (er=0):=(by show _=_;rw [her];unfold rM;rw [hs,hg];rfl);have hx:x.err=0:=(by unfold Ltr.err;rw [hg];rfl);rw [hx] at q2;have hin:=Hq hg;have hsr:=rO hs;clear hv her hs hg hx;go_enter func40,ntmps40;unfold Ltr.agg;go_upto_region 1 with fail;rw [←hW3];clear hW3;have c2:=B2.cell 0;obtain ⟨k0,k1,k2,k3,k4,k5⟩:=B3.six;go_wp2_with fail;refine q.mono ?_;rintro e w' ⟨rfl,rfl⟩;clear q;go_wp2_with fail;refine q2.mono ?_;rintro e w4 ⟨rfl,b4⟩;clear q2;have h4:=ah h3 b4;have D2:=B2.below b4 B2.lt;have D3:=B3.below b4 B3.lt;have D4:=B4.below b4 B4.lt;clear k0 k1 k2 k3 k4 k5 c2 B2 B3 B4 h3 b4;obtain ⟨k0,k1,k2,k3,k4,k5⟩:=D3.six;have BN:Blk (w4.alloc (.cells #[.func (.func 124) #[] #[.pointer (some ⟨W.heap.size,0,none⟩)]] 181)) w4.heap.size 181 #[.func (.func 124) #[] #[.pointer (some ⟨W.heap.size,0,none⟩)]]:=Blk.new _ _ _ _ rfl;have q3:=A8 (mD n) Ltr.inP (JV n) x hin 124 (.inl rfl) _ _ _ BN (OU n hsr W.heap.size _ (D2.alloc _));unfold Ltr.agg at q3;go_wp2_with fail;refine q3.mono ?_;rintro e w5 ⟨rfl,b5⟩;clear q3;have h5:=ah (bAl h4 _) b5;have F4:=(D4.alloc _).below b5 (D4.alloc _).lt;clear k0 k1 k2 k3 k4 k5 D2 D3 D4 h4 b5 BN;obtain ⟨z0,z1,z2,z3,z4,z5⟩:=F4.six_free;obtain ⟨m0,m1,m2,m3,m4,m5⟩:=F4.six;change Hid (v=mD n (mD n (mD n x 0) 1) 2) at Hv;generalize mD n (mD n (mD n x 0) 1) 2=y at *;have C5:=F4.set6 (.int .i64 y.a0) (.int .i64 y.b0) (.int .i64 y.a1) (.int .i64 y.b1) (.int .i64 y.a2) (.int .i64 y.b2);have h6:=mG (b:=W.heap.size+1+1) h5 (by omega) (.int .i64 y.a0) (.int .i64 y.b0) (.int .i64 y.a1) (.int .i64 y.b1) (.int .i64 y.a2) (.int .i64 y.b2)
   go_wp2_with fail;change bodyPost _ _ _ _ _ (set6 w5 (W.heap.size+1+1) (.int .i64 y.a0) (.int .i64 y.b0) (.int .i64 y.a1) (.int .i64 y.b1) (.int .i64 y.a2) (.int .i64 y.b2));obtain ⟨e0,e1,e2,e3,e4,e5⟩:=C5.six;exact bodyPost_ret (v := .tuple #[y.agg,.int .i64 0]) (by simp [results,results40,go_sem,Ltr.agg,e0,e1,e2,e3,e4,e5]) rfl ⟨nT Hv.out He.out,h6⟩
def moreL (key r0 r1 r2:Int) (x:Ltr):Ltr:=lw key r0 r1 r2 (lw key r0 r1 r2 (lw key r0 r1 r2 x 0) 1) 2
def gG (key:Int) (x:Ltr) (r0 r1 r2:Int):Ltr:=if aA key=true then (if x.good=true then moreL key r0 r1 r2 x else aB) else aB
def oU (key:Int) (x:Ltr):Int:=if aA key=true then (if x.good=true then 0 else 100) else 90
theorem three {w:World} {b:Nat} {t:TypeId} {v0 v1 v2:Value} (h:Blk w b t #[v0,v1,v2]):w.cell? ⟨b,0,none⟩=some v0∧w.cell? ⟨b,1,none⟩=some v1∧w.cell? ⟨b,2,none⟩=some v2:=⟨h.cell 0,h.cell 1,h.cell 2⟩
theorem nine {w w':World} {b c:Nat} {t u:TypeId} {v0 v1 v2 v3 v4 v5 s0 s1 s2:Value} (h:Blk w b t #[v0,v1,v2,v3,v4,v5]) (k:Blk w c u #[s0,s1,s2]) (B:Below w.heap.size w w') :
  (w'.cell? ⟨b,0,none⟩=some v0∧w'.cell? ⟨b,1,none⟩=some v1∧w'.cell? ⟨b,2,none⟩=some v2∧w'.cell? ⟨b,3,none⟩=some v3∧w'.cell? ⟨b,4,none⟩=some v4∧w'.cell? ⟨b,5,none⟩=some v5) ∧
  w'.cell? ⟨c,0,none⟩=some s0∧w'.cell? ⟨c,1,none⟩=some s1∧w'.cell? ⟨c,2,none⟩=some s2:=⟨(h.below B h.lt).six,three (k.below B k.lt)⟩
theorem OV (key r0 r1 r2:Int) (x:Ltr) (hin:x.inP) (w:World) :
  Calls prog 123 #[x.agg,.slice (some ⟨w.heap.size+1+1,0,none⟩) 1 1]
   (((w.alloc (.cells #[.int .i64 key] 3)).alloc (.cells #[.int .i64 r0,.int .i64 r1,.int .i64 r2] 94)).alloc (.cells #[.func (.func 198) #[] #[.pointer (some ⟨w.heap.size+1,0,none⟩),.pointer (some ⟨w.heap.size,0,none⟩)]] 181))
   (Ret (moreL key r0 r1 r2 x).agg (((w.alloc (.cells #[.int .i64 key] 3)).alloc (.cells #[.int .i64 r0,.int .i64 r1,.int .i64 r2] 94)).alloc (.cells #[.func (.func 198) #[] #[.pointer (some ⟨w.heap.size+1,0,none⟩),.pointer (some ⟨w.heap.size,0,none⟩)]] 181))):=by
 have BK:=((Blk.new w 3 #[.int .i64 key] _ rfl).alloc (.cells #[.int .i64 r0,.int .i64 r1,.int .i64 r2] 94)).alloc (.cells #[.func (.func 198) #[] #[.pointer (some ⟨w.heap.size+1,0,none⟩),.pointer (some ⟨w.heap.size,0,none⟩)]] 181);have BR:=(Blk.new (w.alloc (.cells #[.int .i64 key] 3)) 94 #[.int .i64 r0,.int .i64 r1,.int .i64 r2] (w.heap.size+1) (by simp)).alloc (.cells #[.func (.func 198) #[] #[.pointer (some ⟨w.heap.size+1,0,none⟩),.pointer (some ⟨w.heap.size,0,none⟩)]] 181);have BN:=Blk.new ((w.alloc (.cells #[.int .i64 key] 3)).alloc (.cells #[.int .i64 r0,.int .i64 r1,.int .i64 r2] 94)) 181 #[.func (.func 198) #[] #[.pointer (some ⟨w.heap.size+1,0,none⟩),.pointer (some ⟨w.heap.size,0,none⟩)]] (w.heap.size+1+1) (by simp);exact A8 (lw key r0 r1 r2) Ltr.inP (OT key r0 r1 r2) x hin 198 (.inr rfl) _ _ _ BN (QW key r0 r1 r2 _ _ _ BK BR)
theorem D7 (key r0 r1 r2:Int) (x:Ltr) (hin:x.inP) (w:World) :
  Calls prog 123 #[x.agg,.slice (some ⟨w.heap.size+1+1,0,none⟩) 1 1]
   (((w.alloc (.cells #[.int .i64 key] 3)).alloc (.cells #[.int .i64 r0,.int .i64 r1,.int .i64 r2] 94)).alloc (.cells #[.func (.func 198) #[] #[.pointer (some ⟨w.heap.size+1,0,none⟩),.pointer (some ⟨w.heap.size,0,none⟩)]] 181)).drew
   (Ret (moreL key r0 r1 r2 x).agg (((w.alloc (.cells #[.int .i64 key] 3)).alloc (.cells #[.int .i64 r0,.int .i64 r1,.int .i64 r2] 94)).alloc (.cells #[.func (.func 198) #[] #[.pointer (some ⟨w.heap.size+1,0,none⟩),.pointer (some ⟨w.heap.size,0,none⟩)]] 181)).drew) :=
 OV key r0 r1 r2 x hin w.drew
theorem wG (key:Int) (x:Ltr) (r0 r1 r2:Int) (W:World) :
  Calls prog 140 #[.int .i64 key,x.agg,.agg #[.int .i64 r0,.int .i64 r1,.int .i64 r2]] W (Ret (.tuple #[(gG key x r0 r1 r2).agg,.int .i64 (oU key x)]) W):=by
 obtain ⟨W3,hW3⟩:∃ W3,W3=((W.alloc (.cells #[.int .i64 x.a0,.int .i64 x.b0,.int .i64 x.a1,.int .i64 x.b1,.int .i64 x.a2,.int .i64 x.b2] 63)).alloc (.cells #[.int .i64 r0,.int .i64 r1,.int .i64 r2] 94)).alloc (.cells #[.int .i64 0,.int .i64 0,.int .i64 0,.int .i64 0,.int .i64 0,.int .i64 0] 63):=⟨_,rfl⟩
 have h3:Below W.heap.size W W3:=by rw [hW3];exact bAl (bAl (bAl (aj W) _) _) _
 obtain ⟨v,hv⟩:∃ v,v=gG key x r0 r1 r2:=⟨_,rfl⟩
 obtain ⟨er,her⟩:∃ v,v=oU key x:=⟨_,rfl⟩
 rw [←hv,←her];have B3:Blk W3 W.heap.size 63 #[.int .i64 x.a0,.int .i64 x.b0,.int .i64 x.a1,.int .i64 x.b1,.int .i64 x.a2,.int .i64 x.b2]:=by rw [hW3];exact ((Blk.new _ _ _ _ rfl).alloc _).alloc _
 have B2:Blk W3 (W.heap.size+1) 94 #[.int .i64 r0,.int .i64 r1,.int .i64 r2]:=by rw [hW3];exact (Blk.new _ _ _ _ (by simp)).alloc _
 have B4:Blk W3 (W.heap.size+1+1) 63 #[.int .i64 0,.int .i64 0,.int .i64 0,.int .i64 0,.int .i64 0,.int .i64 0]:=by rw [hW3];exact Blk.new _ _ _ _ (by simp)
 have q:=bU key W3;cases hs:aA key
 ·have Hv:Hid (v=aB):=by show _=_;rw [hv];exact if_neg (by simp [hs])
  have He:Hid (er=90):=by show _=_;rw [her];exact if_neg (by simp [hs])
  rw [hs] at q;have C5:=B4.set6 (.int .i64 0) (.int .i64 0) (.int .i64 0) (.int .i64 0) (.int .i64 0) (.int .i64 0);have h5:=mG (b:=W.heap.size+1+1) h3 (by omega) (.int .i64 0) (.int .i64 0) (.int .i64 0) (.int .i64 0) (.int .i64 0) (.int .i64 0);clear hv her hs B2 B3;go_enter func140,ntmps140;unfold Ltr.agg;go_upto_region 1 with fail;rw [←hW3];clear hW3;obtain ⟨m0,m1,m2,m3,m4,m5⟩:=B4.six;obtain ⟨z0,z1,z2,z3,z4,z5⟩:=B4.six_free;go_wp2_with fail;refine q.mono ?_;rintro e w' ⟨rfl,rfl⟩;clear q;go_wp2_with fail;change bodyPost _ _ _ _ _ (set6 W3 (W.heap.size+1+1) (.int .i64 0) (.int .i64 0) (.int .i64 0) (.int .i64 0) (.int .i64 0) (.int .i64 0));obtain ⟨e0,e1,e2,e3,e4,e5⟩:=C5.six;exact bodyPost_ret (v := .tuple #[aB.agg,.int .i64 90]) (by simp [results,results140,go_sem,aB,Ltr.agg,e0,e1,e2,e3,e4,e5]) rfl ⟨nT Hv.out He.out,h5⟩
 ·rw [hs] at q
  have q2:=rF x W3;cases hg:x.good
  ·have Hv:Hid (v=aB):=by show _=_;rw [hv];unfold gG;rw [hs,hg];rfl
   have He:Hid (er=100):=(by show _=_;rw [her];unfold oU;rw [hs,hg];rfl);have hx:x.err=100:=(by unfold Ltr.err;rw [hg];rfl);rw [hx] at q2;clear hv her hs hg hx;go_enter func140,ntmps140;unfold Ltr.agg;go_upto_region 1 with fail;rw [←hW3];clear hW3;obtain ⟨k0,k1,k2,k3,k4,k5⟩:=B3.six;go_wp2_with fail;refine q.mono ?_;rintro e w' ⟨rfl,rfl⟩;clear q;go_wp2_with fail;refine q2.mono ?_;rintro e w4 ⟨rfl,b4⟩;clear q2;have h4:=ah h3 b4;have C4:=B4.below b4 B4.lt;clear k0 k1 k2 k3 k4 k5;obtain ⟨m0,m1,m2,m3,m4,m5⟩:=C4.six;obtain ⟨z0,z1,z2,z3,z4,z5⟩:=C4.six_free;have C5:=C4.set6 (.int .i64 0) (.int .i64 0) (.int .i64 0) (.int .i64 0) (.int .i64 0) (.int .i64 0);have h5:=mG (b:=W.heap.size+1+1) h4 (by omega) (.int .i64 0) (.int .i64 0) (.int .i64 0) (.int .i64 0) (.int .i64 0) (.int .i64 0);go_wp2_with fail;change bodyPost _ _ _ _ _ (set6 w4 (W.heap.size+1+1) (.int .i64 0) (.int .i64 0) (.int .i64 0) (.int .i64 0) (.int .i64 0) (.int .i64 0));obtain ⟨e0,e1,e2,e3,e4,e5⟩:=C5.six;exact bodyPost_ret (v := .tuple #[aB.agg,.int .i64 100]) (by simp [results,results140,go_sem,aB,Ltr.agg,e0,e1,e2,e3,e4,e5]) rfl ⟨nT Hv.out He.out,h5⟩
  ·have Hv:Hid (v=moreL key r0 r1 r2 x):=by show _=_;rw [hv];unfold gG;rw [hs,hg];rfl
   have He:Hid (er=0):=(by show _=_;rw [her];unfold oU;rw [hs,hg];rfl);have hx:x.err=0:=(by unfold Ltr.err;rw [hg];rfl);rw [hx] at q2;have hin:=Hq hg;clear hv her hs hg hx;go_enter func140,ntmps140;unfold Ltr.agg;go_upto_region 1 with fail;rw [←hW3];clear hW3;obtain ⟨k0,k1,k2,k3,k4,k5⟩:=B3.six;go_wp2_with fail;refine q.mono ?_;rintro e w' ⟨rfl,rfl⟩;clear q;go_wp2_with fail;refine q2.mono ?_;rintro e w4 ⟨rfl,b4⟩;clear q2;have h4:=ah h3 b4;have D2:=B2.below b4 B2.lt;have D3:=B3.below b4 B3.lt;have D4:=B4.below b4 B4.lt;clear k0 k1 k2 k3 k4 k5 B2 B3 B4 h3 b4;have c9:=nine D3 D2 (aj _);have q3:=D7 key r0 r1 r2 x hin w4;change Hid (v=lw key r0 r1 r2 (lw key r0 r1 r2 (lw key r0 r1 r2 x 0) 1) 2) at Hv;unfold moreL at q3;generalize lw key r0 r1 r2 (lw key r0 r1 r2 (lw key r0 r1 r2 x 0) 1) 2=y at *;unfold Ltr.agg at q3;have Q3:=aab q3;clear q3;have C9:Hid (∀ w',Below w4.heap.size w4 w'→_):=fun w' B=>nine D3 D2 B;go_wp2_with fail;refine kF (f:=6) (n:=3) C9 [2,1,2,0,0,0,0,0] ?_;simp only [ku,jf];refine aT ?_;refine aU ?_;refine aT ?_;refine dK ?_
   iterate 3 (refine dn (fun K hK=>?_);go_simp;(first | (go_at_call 123;(with_reducible refine Q3.out.mono ?_);rintro e w6 ⟨rfl,b6⟩;have B1:Below w4.heap.size w4 w6:=ah (by repeat (first | exact aj _ | refine bAl ?_ _ | refine bDr ?_)) b6) | (go_at_call 133;(with_reducible refine (Hr key r0 r1 r2 _).mono ?_);rintro e w' ⟨rfl,rfl⟩) | skip);refine lS hK C9 ?_;clear hK K)
   refine dA ?_;have h5:=ah h4 B1;have F4:=D4.below B1 D4.lt;obtain ⟨z0,z1,z2,z3,z4,z5⟩:=F4.six_free;obtain ⟨m0,m1,m2,m3,m4,m5⟩:=F4.six;have C5:=F4.set6 (.int .i64 y.a0) (.int .i64 y.b0) (.int .i64 y.a1) (.int .i64 y.b1) (.int .i64 y.a2) (.int .i64 y.b2);have h6:=mG (b:=W.heap.size+1+1) h5 (by omega) (.int .i64 y.a0) (.int .i64 y.b0) (.int .i64 y.a1) (.int .i64 y.b1) (.int .i64 y.a2) (.int .i64 y.b2);clear c9;go_wp2_with fail;refine NoPanic.normal ?_;go_wp2_with fail;change bodyPost _ _ _ _ _ (set6 w6 (W.heap.size+1+1) (.int .i64 y.a0) (.int .i64 y.b0) (.int .i64 y.a1) (.int .i64 y.b1) (.int .i64 y.a2) (.int .i64 y.b2));obtain ⟨e0,e1,e2,e3,e4,e5⟩:=C5.six;exact bodyPost_ret (v := .tuple #[y.agg,.int .i64 0]) (by simp [results,results140,go_sem,Ltr.agg,e0,e1,e2,e3,e4,e5]) rfl ⟨nT Hv.out He.out,h6⟩
def jR (n:Int):Bool:=yT n==0
theorem yg {n:Int} (h:jR n=true):yT n=0:=by simpa [jR] using h
theorem Bd {n:Int} (h:jR n=false):yT n=1:=by
 unfold jR at h;unfold yT at h ⊢
 split
 ·rename_i hc;rw [if_pos hc] at h;simp at h
 ·rfl
def nU (n0 n1 n2:Int):Bool:=jR n0&&jR n1&&jR n2
def qP (n0 n1 n2:Int):Ltr:=⟨1,elemV n0,1,elemV n1,1,elemV n2⟩
def MN (key n0 n1 n2 r0 r1 r2:Int):Ltr:=if aA key=true then (if nU n0 n1 n2=true then moreL key r0 r1 r2 (qP n0 n1 n2) else aB) else aB
def MO (key n0 n1 n2:Int):Int:=if aA key=true then (if nU n0 n1 n2=true then 0 else 100) else 90
theorem yh {n:Int} : inP (elemV n):=by
 unfold elemV inP
 split
 ·split <;> omega
 ·omega
theorem OW (n0 n1 n2:Int):(qP n0 n1 n2).inP:=⟨⟨(⟨by omega,by omega⟩:inP 1),yh⟩,⟨(⟨by omega,by omega⟩:inP 1),yh⟩,(⟨by omega,by omega⟩:inP 1),yh⟩
theorem UI (key n0 n1 n2 r0 r1 r2:Int) (W:World) :
  Calls prog 43 #[.int .i64 key,.agg #[.int .i64 n0,.int .i64 n1,.int .i64 n2],.agg #[.int .i64 r0,.int .i64 r1,.int .i64 r2]] W (Ret (.tuple #[(MN key n0 n1 n2 r0 r1 r2).agg,.int .i64 (MO key n0 n1 n2)]) W):=by
 obtain ⟨W3,hW3⟩:∃ W3,W3=((W.alloc (.cells #[.int .i64 n0,.int .i64 n1,.int .i64 n2] 95)).alloc (.cells #[.int .i64 r0,.int .i64 r1,.int .i64 r2] 94)).alloc (.cells #[.int .i64 0,.int .i64 0,.int .i64 0,.int .i64 0,.int .i64 0,.int .i64 0] 63):=⟨_,rfl⟩
 have h3:Below W.heap.size W W3:=by rw [hW3];exact bAl (bAl (bAl (aj W) _) _) _
 obtain ⟨v,hv⟩:∃ v,v=MN key n0 n1 n2 r0 r1 r2:=⟨_,rfl⟩
 obtain ⟨er,her⟩:∃ v,v=MO key n0 n1 n2:=⟨_,rfl⟩
 rw [←hv,←her];have B3:Blk W3 W.heap.size 95 #[.int .i64 n0,.int .i64 n1,.int .i64 n2]:=by rw [hW3];exact ((Blk.new _ _ _ _ rfl).alloc _).alloc _
 have B2:Blk W3 (W.heap.size+1) 94 #[.int .i64 r0,.int .i64 r1,.int .i64 r2]:=by rw [hW3];exact (Blk.new _ _ _ _ (by simp)).alloc _
 have B4:Blk W3 (W.heap.size+1+1) 63 #[.int .i64 0,.int .i64 0,.int .i64 0,.int .i64 0,.int .i64 0,.int .i64 0]:=by rw [hW3];exact Blk.new _ _ _ _ (by simp)
 have q:=bU key W3;cases hs:aA key
 ·have Hv:Hid (v=aB):=by show _=_;rw [hv];exact if_neg (by simp [hs])
  have He:Hid (er=90):=by show _=_;rw [her];exact if_neg (by simp [hs])
  rw [hs] at q;have C5:=B4.set6 (.int .i64 0) (.int .i64 0) (.int .i64 0) (.int .i64 0) (.int .i64 0) (.int .i64 0);have h5:=mG (b:=W.heap.size+1+1) h3 (by omega) (.int .i64 0) (.int .i64 0) (.int .i64 0) (.int .i64 0) (.int .i64 0) (.int .i64 0);clear hv her hs B2 B3;go_enter func43,ntmps43;unfold Ltr.agg;go_upto_region 1 with fail;rw [←hW3];clear hW3;obtain ⟨m0,m1,m2,m3,m4,m5⟩:=B4.six;obtain ⟨z0,z1,z2,z3,z4,z5⟩:=B4.six_free;go_wp2_with fail;refine q.mono ?_;rintro e w' ⟨rfl,rfl⟩;clear q;go_wp2_with fail;change bodyPost _ _ _ _ _ (set6 W3 (W.heap.size+1+1) (.int .i64 0) (.int .i64 0) (.int .i64 0) (.int .i64 0) (.int .i64 0) (.int .i64 0));obtain ⟨e0,e1,e2,e3,e4,e5⟩:=C5.six;exact bodyPost_ret (v := .tuple #[aB.agg,.int .i64 90]) (by simp [results,results43,go_sem,aB,Ltr.agg,e0,e1,e2,e3,e4,e5]) rfl ⟨nT Hv.out He.out,h5⟩
 ·rw [hs] at q
  have Hv:Hid (v=if nU n0 n1 n2=true then moreL key r0 r1 r2 (qP n0 n1 n2) else aB):=by show _=_;rw [hv];exact if_pos hs
  have He:Hid (er=if nU n0 n1 n2=true then 0 else 100):=by show _=_;rw [her];exact if_pos hs
  clear hv her hs;have i0:∀ w,(Instr.index 95 (.agg #[.int .i64 n0,.int .i64 n1,.int .i64 n2]) (.int .i64 0)).run prog w = .ok (.int .i64 n0) w:=fun _=>by kernel_rfl
  have i1:∀ w,(Instr.index 95 (.agg #[.int .i64 n0,.int .i64 n1,.int .i64 n2]) (.int .i64 1)).run prog w = .ok (.int .i64 n1) w:=fun _=>by kernel_rfl
  have i2:∀ w,(Instr.index 95 (.agg #[.int .i64 n0,.int .i64 n1,.int .i64 n2]) (.int .i64 2)).run prog w = .ok (.int .i64 n2) w:=fun _=>by kernel_rfl
  go_enter func43,ntmps43;unfold Ltr.agg;go_upto_region 1 with fail;rw [←hW3];clear hW3;obtain ⟨k0,k1,k2⟩:=three B3;go_wp2_with fail;refine q.mono ?_;rintro e w' ⟨rfl,rfl⟩;clear q;go_wp2_with fail;clear k0 k1 k2
  go_loopw [17] (fun i wr=>∃ (k:Int),i = .int .i64 k∧Below W.heap.size W wr∧Blk wr (W.heap.size+1) 94 #[.int .i64 r0,.int .i64 r1,.int .i64 r2] ∧
   (k = 0 ∧ Blk wr (W.heap.size + 1 + 1) 63 #[.int .i64 0, .int .i64 0, .int .i64 0, .int .i64 0, .int .i64 0, .int .i64 0] ∨
    k=1∧jR n0=true∧Blk wr (W.heap.size+1+1) 63 #[.int .i64 1,.int .i64 (elemV n0),.int .i64 0,.int .i64 0,.int .i64 0,.int .i64 0] ∨
    k=2∧(jR n0=true∧jR n1=true)∧Blk wr (W.heap.size+1+1) 63 #[.int .i64 1,.int .i64 (elemV n0),.int .i64 1,.int .i64 (elemV n1),.int .i64 0,.int .i64 0] ∨
    k=3∧(jR n0=true∧jR n1=true∧jR n2=true)∧Blk wr (W.heap.size+1+1) 63 #[.int .i64 1,.int .i64 (elemV n0),.int .i64 1,.int .i64 (elemV n1),.int .i64 1,.int .i64 (elemV n2)])) (fun i _=>3 - (intOf i).toNat)
  case atStart=>exact ⟨0,rfl,h3,B2,.inl ⟨rfl,B4⟩⟩
  case round =>
   clear h3 B2 B4 B3;obtain ⟨k,rfl,hb,B2,(⟨rfl,B4⟩ | ⟨rfl,ho,B4⟩ | ⟨rfl,ho,B4⟩ | ⟨rfl,ho,B4⟩)⟩:=hrel
   ·have q:=oP n0 wr
    obtain ⟨z0,z1,z2,z3,z4,z5⟩:=B4.six_free;obtain ⟨m0,m1,m2,m3,m4,m5⟩:=B4.six;cases hc:jR n0
    ·have hbad:Hid (nU n0 n1 n2=false):=by show _=_;unfold nU;rw [hc];rfl
     rw [Bd hc] at q;clear hc;have C5:=B4.set6 (.int .i64 0) (.int .i64 0) (.int .i64 0) (.int .i64 0) (.int .i64 0) (.int .i64 0);have h5:=mG (b:=W.heap.size+1+1) hb (by omega) (.int .i64 0) (.int .i64 0) (.int .i64 0) (.int .i64 0) (.int .i64 0) (.int .i64 0);go_wp2_with fail;refine q.mono ?_;rintro e w' ⟨rfl,rfl⟩;clear q;go_wp2_with fail;change bodyPost _ _ _ _ _ (set6 wr (W.heap.size+1+1) (.int .i64 0) (.int .i64 0) (.int .i64 0) (.int .i64 0) (.int .i64 0) (.int .i64 0));obtain ⟨e0,e1,e2,e3,e4,e5⟩:=C5.six;exact bodyPost_ret (v := .tuple #[aB.agg,.int .i64 100]) (by simp [results,results43,go_sem,aB,Ltr.agg,e0,e1,e2,e3,e4,e5]) rfl ⟨nT (by rw [Hv.out,hbad.out];rfl) (by rw [He.out,hbad.out];rfl),h5⟩
    ·rw [yg hc] at q
     have B5:=(B4.set_ 0 (.int .i64 1)).set_ 1 (.int .i64 (elemV n0));have hc':=aab hc;clear hc;go_wp2_with fail;refine q.mono ?_;rintro e w' ⟨rfl,rfl⟩;clear q;go_wp2_with fail;have hc:=hc'.out;refine ⟨⟨1,rfl,zQ7 (zQ7 hb (by show W.heap.size≤W.heap.size+1+1;omega) _) (by show W.heap.size≤W.heap.size+1+1;omega) _,(B2.far (by show W.heap.size+1≠W.heap.size+1+1;omega) _).far (by show W.heap.size+1≠W.heap.size+1+1;omega) _,.inr (.inl ⟨rfl,trivial,?_⟩)⟩,by simp [intOf]⟩;simpa using B5
   ·have q:=oP n1 wr
    obtain ⟨z0,z1,z2,z3,z4,z5⟩:=B4.six_free;obtain ⟨m0,m1,m2,m3,m4,m5⟩:=B4.six;have Ho:=aab ho;clear ho;cases hc:jR n1
    ·have hbad:Hid (nU n0 n1 n2=false):=by show _=_;unfold nU;rw [hc];simp
     rw [Bd hc] at q;clear hc;have C5:=B4.set6 (.int .i64 0) (.int .i64 0) (.int .i64 0) (.int .i64 0) (.int .i64 0) (.int .i64 0);have h5:=mG (b:=W.heap.size+1+1) hb (by omega) (.int .i64 0) (.int .i64 0) (.int .i64 0) (.int .i64 0) (.int .i64 0) (.int .i64 0);go_wp2_with fail;refine q.mono ?_;rintro e w' ⟨rfl,rfl⟩;clear q;go_wp2_with fail;change bodyPost _ _ _ _ _ (set6 wr (W.heap.size+1+1) (.int .i64 0) (.int .i64 0) (.int .i64 0) (.int .i64 0) (.int .i64 0) (.int .i64 0));obtain ⟨e0,e1,e2,e3,e4,e5⟩:=C5.six;exact bodyPost_ret (v := .tuple #[aB.agg,.int .i64 100]) (by simp [results,results43,go_sem,aB,Ltr.agg,e0,e1,e2,e3,e4,e5]) rfl ⟨nT (by rw [Hv.out,hbad.out];rfl) (by rw [He.out,hbad.out];rfl),h5⟩
    ·rw [yg hc] at q
     have B5:=(B4.set_ 2 (.int .i64 1)).set_ 3 (.int .i64 (elemV n1));have hc':=aab hc;clear hc;go_wp2_with fail;refine q.mono ?_;rintro e w' ⟨rfl,rfl⟩;clear q;go_wp2_with fail;have hc:=hc'.out;refine ⟨⟨2,rfl,zQ7 (zQ7 hb (by show W.heap.size≤W.heap.size+1+1;omega) _) (by show W.heap.size≤W.heap.size+1+1;omega) _,(B2.far (by show W.heap.size+1≠W.heap.size+1+1;omega) _).far (by show W.heap.size+1≠W.heap.size+1+1;omega) _,.inr (.inr (.inl ⟨rfl,⟨Ho.out,trivial⟩,?_⟩))⟩,by simp [intOf]⟩;simpa using B5
   ·have q:=oP n2 wr
    obtain ⟨z0,z1,z2,z3,z4,z5⟩:=B4.six_free;obtain ⟨m0,m1,m2,m3,m4,m5⟩:=B4.six;have Ho:=aab ho;clear ho;cases hc:jR n2
    ·have hbad:Hid (nU n0 n1 n2=false):=by show _=_;unfold nU;rw [hc];simp
     rw [Bd hc] at q;clear hc;have C5:=B4.set6 (.int .i64 0) (.int .i64 0) (.int .i64 0) (.int .i64 0) (.int .i64 0) (.int .i64 0);have h5:=mG (b:=W.heap.size+1+1) hb (by omega) (.int .i64 0) (.int .i64 0) (.int .i64 0) (.int .i64 0) (.int .i64 0) (.int .i64 0);go_wp2_with fail;refine q.mono ?_;rintro e w' ⟨rfl,rfl⟩;clear q;go_wp2_with fail;change bodyPost _ _ _ _ _ (set6 wr (W.heap.size+1+1) (.int .i64 0) (.int .i64 0) (.int .i64 0) (.int .i64 0) (.int .i64 0) (.int .i64 0));obtain ⟨e0,e1,e2,e3,e4,e5⟩:=C5.six;exact bodyPost_ret (v := .tuple #[aB.agg,.int .i64 100]) (by simp [results,results43,go_sem,aB,Ltr.agg,e0,e1,e2,e3,e4,e5]) rfl ⟨nT (by rw [Hv.out,hbad.out];rfl) (by rw [He.out,hbad.out];rfl),h5⟩
    ·rw [yg hc] at q
     have B5:=(B4.set_ 4 (.int .i64 1)).set_ 5 (.int .i64 (elemV n2));have hc':=aab hc;clear hc;go_wp2_with fail;refine q.mono ?_;rintro e w' ⟨rfl,rfl⟩;clear q;go_wp2_with fail;have hc:=hc'.out;refine ⟨⟨3,rfl,zQ7 (zQ7 hb (by show W.heap.size≤W.heap.size+1+1;omega) _) (by show W.heap.size≤W.heap.size+1+1;omega) _,(B2.far (by show W.heap.size+1≠W.heap.size+1+1;omega) _).far (by show W.heap.size+1≠W.heap.size+1+1;omega) _,.inr (.inr (.inr ⟨rfl,⟨Ho.out.1,Ho.out.2,trivial⟩,?_⟩))⟩,by simp [intOf]⟩;simpa using B5
   ·have hok:Hid (nU n0 n1 n2=true):=by show _=_;unfold nU;rw [ho.1,ho.2.1,ho.2.2];rfl
    clear ho i0 i1 i2;have Hv2:Hid (v=lw key r0 r1 r2 (lw key r0 r1 r2 (lw key r0 r1 r2 (qP n0 n1 n2) 0) 1) 2):=(by show _=_;rw [Hv.out,hok.out];rfl);have He2:Hid (er=0):=(by show _=_;rw [He.out,hok.out];rfl);have c9:=nine B4 B2 (aj _);have q3:=D7 key r0 r1 r2 (qP n0 n1 n2) (OW n0 n1 n2) wr;unfold moreL at q3;generalize lw key r0 r1 r2 (lw key r0 r1 r2 (lw key r0 r1 r2 (qP n0 n1 n2) 0) 1) 2=y at *;unfold Ltr.agg qP at q3;have Q3:=aab q3;clear q3;have C9:Hid (∀ w',Below wr.heap.size wr w'→_):=fun w' B=>nine B4 B2 B;go_upto_region 11 with fail;refine kF (f:=6) (n:=3) C9 [2,1,2,0,0,0,0,0] ?_;simp only [ku,jf];refine aT ?_;refine aU ?_;refine aT ?_;refine dK ?_
    iterate 3 (refine dn (fun K hK=>?_);go_simp;(first | (go_at_call 123;(with_reducible refine Q3.out.mono ?_);rintro e w6 ⟨rfl,b6⟩;have B1:Below wr.heap.size wr w6:=ah (by repeat (first | exact aj _ | refine bAl ?_ _ | refine bDr ?_)) b6) | (go_at_call 133;(with_reducible refine (Hr key r0 r1 r2 _).mono ?_);rintro e w' ⟨rfl,rfl⟩) | skip);refine lS hK C9 ?_;clear hK K)
    refine dA ?_;have h5:=ah hb B1;have F4:=B4.below B1 B4.lt;obtain ⟨z0,z1,z2,z3,z4,z5⟩:=F4.six_free;obtain ⟨m0,m1,m2,m3,m4,m5⟩:=F4.six;have C5:=F4.set6 (.int .i64 y.a0) (.int .i64 y.b0) (.int .i64 y.a1) (.int .i64 y.b1) (.int .i64 y.a2) (.int .i64 y.b2);have h6:=mG (b:=W.heap.size+1+1) h5 (by omega) (.int .i64 y.a0) (.int .i64 y.b0) (.int .i64 y.a1) (.int .i64 y.b1) (.int .i64 y.a2) (.int .i64 y.b2);clear c9;go_wp2_with fail;refine NoPanic.normal ?_;go_wp2_with fail;change bodyPost _ _ _ _ _ (set6 w6 (W.heap.size+1+1) (.int .i64 y.a0) (.int .i64 y.b0) (.int .i64 y.a1) (.int .i64 y.b1) (.int .i64 y.a2) (.int .i64 y.b2));obtain ⟨e0,e1,e2,e3,e4,e5⟩:=C5.six;exact bodyPost_ret (v := .tuple #[y.agg,.int .i64 0]) (by simp [results,results43,go_sem,Ltr.agg,e0,e1,e2,e3,e4,e5]) rfl ⟨nT Hv2.out He2.out,h6⟩
end
end Go.Proofs.YthbibbkbaphpkaaGreatDoor

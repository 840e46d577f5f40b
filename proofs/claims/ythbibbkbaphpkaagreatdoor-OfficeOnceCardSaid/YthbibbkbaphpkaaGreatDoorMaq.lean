/- A region that draws, inside a round of a range over an iterator, by a schedule. -/
import Derived.Test.YthbibbkbaphpkaaGreatDoorMam
set_option maxHeartbeats 16000000
set_option maxRecDepth 1000000
namespace Go.Proofs.YthbibbkbaphpkaaGreatDoor
open _root_.Go.Proofs.Tryz
section
open Go Go.RowKit
theorem dU {P:Program} {L n:Nat} {Q:Exit→Act→World→Prop} {S:World→Prop} {w0:World} {id g:Nat} {l:List Oper} {a:Act} {w:World} (KS:Hid (∀ w',Below w0.heap.size w0 w'→S w')) (s:List (Nat×Nat)) (h:dG P .any l.toArray (NoOut Q) S g (pY s (Array.replicate l.toArray.size false)) (bf s l) a w.drew)
  (hm:P.follows .mixedOrders=true:=by kernel_rfl) (hB:(Region.noSelect l.toArray&&(decide (s.length+g=l.toArray.size)&&lg .any l.toArray s (Array.replicate l.toArray.size false))&&qC l.toArray)=true:=by kernel_rfl)
  (hb:Below w0.heap.size w0 w.drew:=by (repeat (first | with_reducible assumption | with_reducible exact aj _ | with_reducible refine bDr ?_ | with_reducible refine bAl ?_ _))):(Code.region id l.toArray true).wpIn (Fence.wide.inRound L) n P Q a w:=by
 simp only [aal,decide_eq_true_eq] at hB;obtain ⟨⟨h1,h2,h3⟩,h4⟩:=hB;refine wpIn_region_any' h4 hm ?_
 have:=qI _ _ _ _ (lM (md := .any) (Q:=NoOut Q) (ops:=l.toArray) h1 (fun _ _ _ _ _ h=>h) g s _ a w.drew h3 (KS.out _ hb) (by simpa using h))
 rw [h2] at this;exact this
theorem ay {P:Program} {md:Region.Mode} {ops:Array Oper} {Q:Exit→Act→World→Prop} {S:World→Prop} {g:Nat} {listed:Array Bool} {o:Oper} {l:List (Nat×Oper)} {a a':Act} {w:World} (h:dG P md ops Q S g listed l a' w) (hw:Region.wanted o (yielded ops a.tmps)=false:=by rfl)
  (ht:a.put o.dst undef=a':=by (try simp only [Act.put,aaf,aai,aah]) <;> with_reducible rfl):dG P md ops Q S g listed ((1,o)::l) a w:=by
 subst ht;exact ⟨undef,.inr ⟨hw,rfl⟩,h⟩
theorem lQ {P:Program} {md:Region.Mode} {ops:Array Oper} {Q:Exit→Act→World→Prop} {S:World→Prop} {listed:Array Bool} {a:Act} {w:World} (h:Q .normal a w) (hr:Region.ready md ops listed=[]:=by kernel_rfl):dG P md ops Q S 0 listed [] a w:=⟨hr,h⟩
end
section
open Go.RowKit
def Si:List Int→List Ltr→List Ltr
 | [],b=>b
 | s::ss,b=>Si ss (bu s b)
section
variable {ss:List Int} {first:List Ltr} {place:Int} {w:Wd} {r0 r1 r2:Int}
end
theorem Iw {s:Int} {l:List Ltr} {k:Nat} {x:Ltr} (h:l[k]?=some x) (hx:x.good=true):(bu s l)[k]?=some (stripL s x):=by
 unfold bu;rw [aaD,h];show some (x.by (iE s))=_;refine congrArg some ?_;refine Ltr.ext_at (fun j=>?_);obtain ⟨ha,hb⟩:=kG hx j;rw [(Ltr.by_at _ x j).1,(Ltr.by_at _ x j).2,(lJ s x j).1,(lJ s x j).2];unfold iE;dsimp only;rw [tY hb (aX (aX ha _) _),nR ha];refine ⟨rfl,?_⟩;rw [show s * -1 = -s by omega]
def U0:ByteArray:=⟨#[110,111,110,99,101]⟩
def zL (s:Int) (T:List Nat):Int:=max (qV (sb U0) (bZ [.int s,.text (dgS T)]):Int) 1
def qR (s:Int) (T:List Nat):Int:=(sgV (aJ 4 (zL s T)) (aJ 4 s) T:Nat)
def sJ (s:Int) (T:List Nat):Int:=(zL s T+qR s T*s % 1073741789) % 1073741789
theorem Iy (s:Int) (T:List Nat):0≤qR s T∧qR s T<1073741789:=by
 unfold qR sgV
 have:=qW (sb sgS) (bZ [.int (aJ 4 (zL s T)),.int (aJ 4 s),.text (dgS T)])
 omega
theorem Iz (s:Int) (T:List Nat):0≤sJ s T∧sJ s T<1073741789:=by
 unfold sJ;omega
theorem Sj (s:Int) (T:List Nat):1≤zL s T∧zL s T<1073741789:=by
 unfold zL
 have:=qW (sb U0) (bZ [.int s,.text (dgS T)])
 omega
theorem U1 {s:Int} (hs:iO s=true) (T:List Nat):sgB (pK s) T (qR s T) (sJ s T)=true:=by
 have hk:=aX aV s
 have hpt:ptV (pK s) (qR s T) (sJ s T)=aJ 4 (zL s T):=by
  unfold ptV;rw [wI hs,wE (aX aV _) (aX hk _)];have h:=rY aV (zL s T) (qR s T) s;rw [tY (aX aV _) (aX hk _)] at h
  have e:sJ s T=(zL s T+qR s T*s) % 1073741789:=by
   unfold sJ;generalize qR s T*s=z;omega
  rw [e];exact h
 unfold sgB;rw [Ed hs,zV (Iy s T),zV (Iz s T),hpt,wI hs];simp only [aaM,Bool.and_self];exact decide_eq_true (by unfold qR;rfl)
structure Ep where
 o:Int
 f:Int
 k:Int
def Ep.cl (e:Ep):List Value:=[.int .i64 e.o,.int .i64 e.f,.int .i64 e.k]
def Ep.good (e:Ep):Prop:=(0≤e.o∧e.o<24)∧(0≤e.f∧e.f<2097152)∧e.k≠1∧aA e.k=true
def XJ (l:List Ep):Prop:=l.length≤256∧(∀ e∈l,e.good)∧∀ (i:Nat) (a b:Ep),l[i]?=some a→l[i+1]?=some b→a.o<b.o
def Xj (office time:Int):List Ep→Int×Bool→Int×Bool
 | [],r=>r
 | x::l,r=>if x.o=office then (if time<x.f then r else Xj office time l (x.k,true)) else Xj office time l r
def XF (from_:Int) (ss:List Int) (i:Nat):Ep:=⟨2 * (i:Int),from_,pK (ss.getD i 0)⟩
def XK (from_:Int) (ss:List Int) (n:Nat):List Ep:=(List.range n).map (XF from_ ss)
theorem Xk {a b:Nat} (ha:a<1073741789) (hb:b<1073741789):a*b≤1152921430000000000:=by
 have h:a*b≤1073741788*1073741788:=Nat.mul_le_mul (by omega) (by omega);omega
theorem zi (a b:Nat):((a:Int)*b % 1073741789)=((a*b % Qn:Nat):Int):=by unfold Qn;simp
end
end Go.Proofs.YthbibbkbaphpkaaGreatDoor

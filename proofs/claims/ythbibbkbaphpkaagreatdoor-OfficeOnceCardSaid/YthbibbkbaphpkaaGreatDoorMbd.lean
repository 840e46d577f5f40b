/- From a walk to the given row and its card: the listed variables, the witness, the arguments that stay. -/
import Derived.Test.YthbibbkbaphpkaaGreatDoorRows
import Derived.Test.YthbibbkbaphpkaaGreatDoorTie
import Derived.Test.YthbibbkbaphpkaaGreatDoorCards
import Derived.Test.YthbibbkbaphpkaaGreatDoorMbb
import Derived.LaidLaws
import Derived.LaidHandle
import Derived.SevenTiedAt
import Derived.ChangeSame
import Derived.ChangeVars
import Derived.JoinedOf
import Derived.RowKit
import Derived.FnData
set_option maxHeartbeats 16000000
set_option maxRecDepth 1000000
namespace Go.Proofs.YthbibbkbaphpkaaGreatDoor
open _root_.Go.Proofs.Tryz
open Go.ChangeShapes Go.WideShapes Go.RowKit
theorem qN {v:Value} (h:v.cells.size≠1):∃ cs:Array Value,v = .agg cs∧v.cells=cs:=by
 cases v <;> first | exact ⟨_,rfl,rfl⟩ | exact absurd rfl h
theorem uI {H:Type} {enc:TypeId×Value→H} {W W':World} (hb:Below W.heap.size W W'):∀ {ts:List TypeId} {vs:List Value} {ds:List (DataW H)} {ps:List MemPlace},
  (∀ t∈ts,prog.readableRec t=true∧t<prog.types.size)→DataW.TrodAll enc prog W 0 (fun _=>true) true ts vs ds ps→DataW.TrodAll enc prog W' 0 (fun b=>decide (b<W.heap.size)) true ts vs ds ps
 | [],[],[],_,_,h=>h
 | t::ts,v::vs,d::ds,ps,hr,h=>by
  obtain ⟨p,q,h1,h2,rfl⟩:=h;obtain ⟨r1,r2⟩:=hr t (by simp);exact ⟨p,q,Below.trod Gt r1 r2 h1 hb (by obtain ⟨m,hm⟩:=h1;exact DataW.trod_lt m _ _ _ hm),uI hb (fun t ht=>hr t (by simp [ht])) h2,rfl⟩
 | [],_::_,_,_,_,h=>by cases h
 | [],[],_::_,_,_,h=>by cases h
 | _::_,[],_,_,_,h=>by cases h
 | _::_,_::_,[],_,_,h=>by cases h
noncomputable def um:List (String×DataW Unit):=[("franking/digest.start",Rows.laid_franking_digest_start),("franking/digest.numbers",Rows.laid_franking_digest_numbers)]
def Md (l:List Nat):List (DataW Unit):=l.map fun x => .lit (.int .u32 (x:Nat))
theorem DC:(Rows.laid_franking_digest_start:DataW Unit) = .agg (Md iq.list):=rfl
theorem zO:(Rows.laid_franking_digest_numbers:DataW Unit) = .agg (Md qp):=rfl
theorem Dl:prog.globalNamed "franking/digest.start" = some 0:=by kernel_rfl
theorem xK:prog.globalNamed "franking/digest.numbers" = some 2:=by kernel_rfl
noncomputable def Uo (g n:Nat):Bool:=match (prog.globals[g]?).map (·.type) with
 | some t=>match prog.underlying t with
  | some (.array m e)=>m==n&&(e==88)
  | _=>false
 | none=>false
theorem Dn {g n:Nat} (h:Uo g n=true) {t:TypeId} (ht:(prog.globals[g]?).map (·.type)=some t):prog.underlying t=some (.array n 88):=by
 unfold Uo at h;rw [ht] at h;simp only at h
 split at h
 ·rename_i m e hu
  simp only [aal,beq_iff_eq] at h;rw [hu,h.1,h.2]
 ·cases h
theorem Qg:prog.cellsOf 88=1:=by kernel_rfl
theorem Dp {w:World} {base:Nat} {sp:Nat→Bool} {held:Bool} {fuel n:Nat} {t:TypeId} {cs:List Value} {l:List Nat} {p:List MemPlace} (ht:prog.underlying t=some (.array n 88)) (hl:l.length=n)
  (h:DataW.trod (fun _=>()) prog w base sp held fuel t cs=some (.agg (Md l),p)) (i x:Nat) (hi:l[i]?=some x):cs[i]?=some (.int .u32 (x:Nat)):=by
 obtain ⟨xs,m,_,e,_,hxl,hf⟩:=DataW.trod_array ht h;have hlt:i<n:=by rw [←hl];exact (aag.1 hi).1
 have h1:=hf i hlt;rw [Qg,aaA] at h1;obtain ⟨y,hy⟩:∃ y,xs[i]?=some y:=⟨_,aac (by omega)⟩
 rw [hy] at h1;obtain ⟨z,e1,e2,_⟩:=DataW.trod_int underlying88 h1
 have e3:Md l=xs.map (·.1):=by
  have:=congrArg Prod.fst e
  injection this
 have e4:(Md l)[i]?=some y.1:=by rw [e3,aaD,hy];rfl
 have e5:(Md l)[i]?=some (.lit (.int .u32 (x:Nat))):=by unfold Md;rw [aaD,hi];rfl
 rw [e4,e2] at e5;have e6:z=(x:Nat):=by simpa using e5
 have:=N9 (o:=i) (m:=1) (j:=0) e1 rfl
 rw [aa9] at this;rw [this,e6]
theorem cell_lt {w:World} {g i:Nat} {v:Value} (h:w.cell? ⟨g,i,none⟩=some v):g<w.heap.size:=by
 unfold World.cell? at h;cases hh:w.heap[g]? with
 | none=>simp [hh] at h
 | some o=>exact (aaI.1 hh).1
theorem Js {w:World} (h:laidMetH prog um w):ShaG w:=by
 have h':laidMet prog um w:=h;obtain ⟨ps,⟨g,t,cs,fuel,p,q,hg,ht,hv,hd,⟨g2,t2,cs2,fuel2,p2,q2,hg2,ht2,hv2,hd2,_,_⟩,_⟩,_,_⟩:=h';obtain rfl:=Option.some.inj (Dl.symm.trans hg);obtain rfl:=Option.some.inj (xK.symm.trans hg2);rw [DC] at hd;rw [zO] at hd2;have a1:=Dn (n:=8) (by kernel_rfl) ht;have a2:=Dn (n:=64) (by kernel_rfl) ht2
 have f1:∀ i x,iq.list[i]?=some x→w.cell? ⟨0,i,none⟩=some (.int .u32 (x:Nat)):=fun i x hx=>by
  rw [World.var?_cell Dl hv,←Array.getElem?_toList];exact Dp a1 rfl hd i x hx
 have f2:∀ i x,qp[i]?=some x→w.cell? ⟨2,i,none⟩=some (.int .u32 (x:Nat)):=fun i x hx=>by
  rw [World.var?_cell xK hv2,←Array.getElem?_toList];exact Dp a2 rfl hd2 i x hx
 exact ⟨f2,f1,cell_lt (f2 0 _ rfl),cell_lt (f1 0 _ rfl)⟩
def XB (l:List Nat):Array Value:=(l.map fun x=>Value.int .u32 (x:Nat)).toArray
noncomputable def laidWorld (os:Os):World :=
 let w0:=World.holding prog os ⟨#[],#[],[]⟩
 { w0 with heap:=(w0.heap.modify 0 fun
   | .cells _ t frozen => .cells (XB iq.list) t frozen
   | o=>o).modify 2 fun
   | .cells _ t frozen => .cells (XB qp) t frozen
   | o=>o }
end Go.Proofs.YthbibbkbaphpkaaGreatDoor

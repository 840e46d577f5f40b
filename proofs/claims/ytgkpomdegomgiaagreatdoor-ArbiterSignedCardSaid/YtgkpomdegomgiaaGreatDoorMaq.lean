/- epochs.Rest, walked. -/
import Derived.Test.YtgkpomdegomgiaaGreatDoorMap
import Derived.Test.YtgkpomdegomgiaaGreatDoorMab
set_option maxRecDepth 1000000
set_option maxHeartbeats 16000000
namespace Go.Proofs.YtgkpomdegomgiaaGreatDoor
open Go.RowKit
def restL:List Int→List Int
  | []=>[1]
  | k::l=>mulV k ((restL l).headD 1)::restL l
theorem restL_length:∀ l:List Int,(restL l).length=l.length+1
  | []=>rfl
  | _::l=>by simp [restL,restL_length l]
theorem restL_valid:∀ {l:List Int},(∀ k∈l,validB k=true)→∀ x∈restL l,validB x=true
  | [], _, x, hx => by obtain rfl : x = 1 := by simpa [restL] using hx
                       exact valid_one
  | k::l,h,x,hx=>by
    have ih:=restL_valid (l:=l) (fun y hy=>h y (List.mem_cons_of_mem _ hy))
    have hh:validB ((restL l).headD 1)=true:=by
      have hl:=restL_length l
      cases hr:restL l with
      | nil=>rw [hr] at hl;simp at hl
      | cons a r=>exact ih a (by rw [hr];simp)
    rcases List.mem_cons.1 hx with rfl | hx
    · exact valid_mulV (h k (by simp)) hh
    · exact ih x hx
theorem restL_head {l:List Int} : ∃ r,(restL l)[0]?=some r∧r=(restL l).headD 1:=by
  have hl:=restL_length l
  cases hr:restL l with
  | nil=>rw [hr] at hl;simp at hl
  | cons a r=>exact ⟨a,rfl,rfl⟩
theorem made_ints (n:Nat):madeCells (Value.int .i64 0).cells (n*1)=(ints (List.replicate n 0)).toArray:=by
  apply Array.ext
  · rw [size_madeCells];simp [ints]
  · intro i h1 h2
    simp only [madeCells,Array.getElem_map,Array.getElem_range,ints,List.map_replicate,List.getElem_toArray,List.getElem_replicate]
    show (#[Value.int .i64 0]:Array Value)[i % 1]! = _
    rw [Nat.mod_one];rfl
theorem make_ints (n:Nat) (hn:n≤100000) (w:World):(Instr.makeSlice 22 (.int .i64 ((n:Int)+1)) (.int .i64 ((n:Int)+1))).run Tryz.prog w = .ok (.slice (some ⟨w.heap.size,0,none⟩) (n+1) (n+1)) (w.alloc (.cells (ints (List.replicate (n+1) 0)).toArray 3)):=by
  have hinf:(Tryz.prog.info? 3).map (fun i=>(i.zero,i.size,i.bytes))=some (some (.int .i64 0),1,8):=by kernel_rfl
  obtain ⟨i0,hi,hz0,hz1,hz2⟩:=info_parts hinf
  have:=run_makeSlice (w:=w) (P:=Tryz.prog) 22 3 i0 (.int .i64 0) Tryz.underlying22 hi hz0 .i64 .i64 ((n:Int)+1) ((n:Int)+1) (by omega) (Int.le_refl _) (by rw [hz1];omega) (by rw [hz2];omega) (by omega)
  have e:((n:Int)+1).toNat=n+1:=by omega
  rw [e,hz1,made_ints] at this
  exact this
theorem ints_set {l:List Int} {k:Nat} {x:Int} : (ints l).toArray.setIfInBounds k (.int .i64 x)=(ints (l.set k x)).toArray:=by
  rw [List.setIfInBounds_toArray]
  unfold ints
  rw [List.map_set]
theorem rest_set {l:List Int} {k:Nat} (hk:k<l.length):(List.replicate (k+1) 0++restL (l.drop (k+1))).set k (mulV l[k] ((restL (l.drop (k+1))).headD 1))=List.replicate k 0++restL (l.drop k):=by
  rw [List.drop_eq_getElem_cons hk,List.set_append_left _ _ (by simp)]
  show _=List.replicate k 0++(mulV l[k] _::_)
  rw [show List.replicate (k+1) (0:Int)=List.replicate k 0++[0] from List.replicate_succ',List.set_append_right _ _ (by simp)]
  simp
theorem rest_first {l:List Int} : (List.replicate (l.length+1) (0:Int)).set l.length 1=List.replicate l.length 0++restL (l.drop l.length):=by
  rw [List.drop_length,show List.replicate (l.length+1) (0:Int)=List.replicate l.length 0++[0] from List.replicate_succ',List.set_append_right _ _ (by simp)]
  simp [restL]
def RetRest (l:List Int) (w:World) (r:Ending) (w':World):Prop :=
  Below w.heap.size w w'∧((∀ k∈l,validB k=true)→∃ g,r = .returned (.tuple #[.slice (some ⟨g,0,none⟩) (l.length+1) (l.length+1),.int .i64 0])∧w.heap.size≤g∧Blk w' g 3 (ints (restL l)).toArray) ∧
  ((¬ ∀ k∈l,validB k=true)→r = .returned (.tuple #[.slice none 0 0,.int .i64 90]))
theorem ep_rest (A:Option Addr) (n c:Nat) (l:List Int) (W:World) (hA:Rd W W.heap.size 1 A n (ints l)) (hn:n≤24) :
    Calls Tryz.prog 30 #[.slice A n c] W (RetRest l W):=by
  obtain rfl:l.length=n:=by have:=hA.1;rw [ints_length,Nat.mul_one] at this;exact this
  have hmk:=make_ints l.length (by omega)
  go_enter Tryz.func30,Tryz.ntmps30
  go_upto_region 4 with fail
  have BG:=Blk.new W 3 (ints (List.replicate (l.length+1) 0)).toArray _ rfl
  have hb:=bAl (bRefl W) (.cells (ints (List.replicate (l.length+1) 0)).toArray 3)
  generalize W.alloc (.cells (ints (List.replicate (l.length+1) 0)).toArray 3)=w1 at *
  have x0:=(BG.cell l.length).trans (show (ints (List.replicate (l.length+1) 0)).toArray[l.length]?=some (.int .i64 0) by simp [ints])
  have z0:=BG.frozen l.length
  have B2:=BG.set_ l.length (.int .i64 1)
  rw [ints_set,rest_first] at B2
  have h2:=bSet hb (p:=⟨W.heap.size,l.length,none⟩) (Nat.le_refl _) (.int .i64 1)
  clear BG hmk
  go_upto_region 5 with fail
  clear x0 z0 hb
  generalize w1.setCell ⟨W.heap.size,l.length,none⟩ (.int .i64 1)=w2 at *
  go_wp2_with fail
  go_loopw [4,2,3] (fun i v2 v3 wr=>(v2 = .slice (some ⟨W.heap.size,0,none⟩) (l.length+1) (l.length+1)∧v3 = .int .i64 0)∧Below W.heap.size W wr∧((∃ k:Nat,k<l.length∧i = .int .i64 k∧Hid (∀ x∈l.drop (k+1),validB x=true)∧Blk wr W.heap.size 3 (ints (List.replicate (k+1) 0++restL (l.drop (k+1)))).toArray) ∨
    (i = .int .i64 (-1)∧Hid (∀ x∈l,validB x=true)∧Blk wr W.heap.size 3 (ints (restL l)).toArray))) (fun i _ _ _=>(intOf i+1).toNat)
  case atStart =>
    refine ⟨⟨rfl,rfl⟩,h2,?_⟩
    rcases Nat.eq_zero_or_pos l.length with h0 | h0
    · have hl:l=[]:=List.eq_nil_of_length_eq_zero h0
      right
      refine ⟨by rw [h0];rfl,Lib.hid (by rw [hl];simp),?_⟩
      rw [h0] at B2
      simpa using B2
    · left
      refine ⟨l.length - 1,by omega,by rw [show ((l.length:Int) - 1)=((l.length - 1:Nat):Int) from by omega],Lib.hid ?_,?_⟩
      · rw [show l.length - 1+1=l.length from by omega,List.drop_length];simp
      · rw [show l.length - 1+1=l.length from by omega];exact B2
  case round =>
    clear B2 h2
    obtain ⟨⟨rfl,rfl⟩,hb,(⟨k,hk,rfl,hv,BG⟩ | ⟨rfl,hv,BG⟩)⟩:=hrel
    · obtain ⟨x,hx⟩:∃ x,Hid (l[k]?=some x):=⟨_,Lib.hid (List.getElem?_eq_getElem hk)⟩
      obtain ⟨b,off,rfl,hbb,c0⟩:=Int_at (hA.below hb) hk hx.out
      obtain ⟨r,hr1,hr2⟩:=restL_head (l:=l.drop (k+1))
      have hrv:validB r=true:=restL_valid hv.out r (List.mem_of_getElem? hr1)
      have x1:wr.cell? ⟨W.heap.size,k+1,none⟩=some (.int .i64 r):=by
        rw [BG.cell]
        show (ints _).toArray[k+1]?=_
        rw [List.getElem?_toArray]
        refine ints_at ?_
        rw [List.getElem?_append_right (by simp)]
        simpa using hr1
      have x0:wr.cell? ⟨W.heap.size,k,none⟩=some (.int .i64 0):=by
        rw [BG.cell]
        rw [List.getElem?_toArray]
        refine ints_at ?_
        rw [List.getElem?_append_left (by simp)]
        simp
      have z0:=BG.frozen k
      have hR2:=Lib.hid hr2
      have HR1:=Lib.hid hr1
      have HRV:=Lib.hid hrv
      clear hr1 hr2 hrv
      have hsz:=BG.lt
      have i0:(0:Int)≤(k:Int):=by omega
      have i1:(k:Int)<(l.length:Int):=by omega
      have i2:IntKind.i64.wrap ((k:Int)+1)=(k:Int)+1:=by rw [IntKind.wrap_i64];omega
      have hE:mulE x r=if validB x=true then 0 else 90:=by unfold mulE;rw [HRV.out];rfl
      have HE:=Lib.hid hE
      clear hE
      cases hxv:validB x
      · have hbad:Hid (¬ ∀ k∈l,validB k=true):=fun h=>by have:=h x (List.mem_of_getElem? hx.out);rw [hxv] at this;cases this
        have q:=group_mul x r wr.drew
        rw [HE.out,hxv] at q
        clear hxv HE
        go_upto_region 8 with fail
        go_region_with ((go_at_call 67;(with_reducible refine q.mono ?_);rintro e w' ⟨rfl,rfl⟩))
        all_goals
          go_wp2_with fail
          go_ret2
          exact ⟨by first | exact bDr (bSet hb (Nat.le_refl _) _) | exact bSet (bDr hb) (Nat.le_refl _) _,fun h=>absurd h hbad.out,fun _=>rfl⟩
      · have hv2:Hid (∀ x∈l.drop k,validB x=true):=by
          intro y hy
          obtain ⟨_,he⟩:=List.getElem?_eq_some_iff.1 hx.out
          rw [List.drop_eq_getElem_cons hk] at hy
          rcases List.mem_cons.1 hy with rfl | hy
          · rw [he];exact hxv
          · exact hv.out y hy
        have B2:=BG.set_ k (.int .i64 (mulV x r))
        have hset:((List.replicate (k+1) 0++restL (l.drop (k+1))).set k (mulV x r))=List.replicate k 0++restL (l.drop k):=by
          have:=rest_set hk
          obtain ⟨_,he⟩:=List.getElem?_eq_some_iff.1 hx.out
          rw [he,←hR2.out] at this
          exact this
        rw [ints_set,hset] at B2
        have q:=group_mul x r wr.drew
        rw [HE.out,hxv] at q
        clear hxv HE hset
        have hb2:=bSet hb (p:=⟨W.heap.size,k,none⟩) (Nat.le_refl _) (.int .i64 (mulV x r))
        go_upto_region 8 with fail
        go_region_with ((go_at_call 67;(with_reducible refine q.mono ?_);rintro e w' ⟨rfl,rfl⟩))
        all_goals
          go_wp2_with fail
          refine ⟨⟨⟨rfl,rfl⟩,bDr hb2,?_⟩,by simp [intOf]⟩
          rcases Nat.eq_zero_or_pos k with h0 | h0
          · right
            subst h0
            exact ⟨rfl,Lib.hid (by have:=hv2.out;simpa using this),by have:=B2;simp at this;exact Blk.dr this⟩
          · left
            exact ⟨k - 1,by omega,by rw [show ((k:Int) - 1)=((k - 1:Nat):Int) from by omega],Lib.hid (by rw [show k - 1+1=k from by omega];exact hv2.out),by rw [show k - 1+1=k from by omega];exact Blk.dr B2⟩
    · go_wp2_with fail
      go_ret2
      exact ⟨hb,fun _=>⟨W.heap.size,rfl,Nat.le_refl _,BG⟩,fun h=>absurd hv.out h⟩
def LsAt (w:World) (B:Nat) (o:Option Value) (l:List Ltr):Prop:=∃ A c,o=some (.slice A l.length c)∧Rd w B 6 A l.length (l.flatMap Ltr.cl)∧l.length≤c∧c≤9223372036854775807
def dgC (d:List Nat):List Value:=byts d
def DsAt (w:World) (B:Nat) (o:Option Value) (l:List (List Nat)):Prop:=∃ A c,o=some (.slice A l.length c)∧Rd w B 32 A l.length (l.flatMap byts)∧l.length≤c∧c≤9223372036854775807∧∀ d∈l,d.length=32∧okB d
structure Jb where
  bare:List Ltr
  proofs:List Ltr
  mi:List Ltr
  mm:List Ltr
  mo:List Ltr
  ml:List (List Nat)
  mr:List (List Nat)
structure JobAt (w:World) (B:Nat) (f:Nat→Option Value) (j:Jb):Prop where
  h0:LsAt w B (f 0) j.bare
  h1:LsAt w B (f 1) j.proofs
  h2:LsAt w B (f 2) j.mi
  h3:LsAt w B (f 3) j.mm
  h4:LsAt w B (f 4) j.mo
  h5:DsAt w B (f 5) j.ml
  h6:DsAt w B (f 6) j.mr
def Jb.emptyB (j:Jb):Bool:=decide (j.mi.length+j.mm.length+j.mo.length=0)
section
variable {w w':World} {B:Nat} {o:Option Value}
theorem LsAt.below {l:List Ltr} (h:LsAt w B o l) (b:Below B w w'):LsAt w' B o l:=by obtain ⟨A,c,h1,h2,h3,h4⟩:=h;exact ⟨A,c,h1,h2.below b,h3,h4⟩
theorem LsAt.more {B':Nat} {l:List Ltr} (h:LsAt w B o l) (b:B≤B'):LsAt w B' o l:=by obtain ⟨A,c,h1,h2,h3,h4⟩:=h;exact ⟨A,c,h1,h2.more b,h3,h4⟩
theorem DsAt.below {l:List (List Nat)} (h:DsAt w B o l) (b:Below B w w'):DsAt w' B o l:=by obtain ⟨A,c,h1,h2,h3,h4,h5⟩:=h;exact ⟨A,c,h1,h2.below b,h3,h4,h5⟩
theorem DsAt.more {B':Nat} {l:List (List Nat)} (h:DsAt w B o l) (b:B≤B'):DsAt w B' o l:=by obtain ⟨A,c,h1,h2,h3,h4,h5⟩:=h;exact ⟨A,c,h1,h2.more b,h3,h4,h5⟩
theorem JobAt.below {f:Nat→Option Value} {j:Jb} (h:JobAt w B f j) (b:Below B w w'):JobAt w' B f j:=⟨h.h0.below b,h.h1.below b,h.h2.below b,h.h3.below b,h.h4.below b,h.h5.below b,h.h6.below b⟩
theorem JobAt.more {B':Nat} {f:Nat→Option Value} {j:Jb} (h:JobAt w B f j) (b:B≤B'):JobAt w B' f j:=⟨h.h0.more b,h.h1.more b,h.h2.more b,h.h3.more b,h.h4.more b,h.h5.more b,h.h6.more b⟩
end
structure ShnAt (w:World) (B:Nat) (cs:Array Value) (inn:List Ltr) (key rest:Int) (j:Jb):Prop where
  hin:LsAt w B cs[0]? inn
  hkey:cs[1]?=some (.int .i64 key)
  hrest:cs[2]?=some (.int .i64 rest)
  hjob:JobAt w B (fun i=>cs[3+i]?) j
theorem ShnAt.below {w w':World} {B:Nat} {cs:Array Value} {inn:List Ltr} {key rest:Int} {j:Jb} (h:ShnAt w B cs inn key rest j) (b:Below B w w'):ShnAt w' B cs inn key rest j:=⟨h.hin.below b,h.hkey,h.hrest,h.hjob.below b⟩
theorem ShnAt.more {w:World} {B B':Nat} {cs:Array Value} {inn:List Ltr} {key rest:Int} {j:Jb} (h:ShnAt w B cs inn key rest j) (b:B≤B'):ShnAt w B' cs inn key rest j:=⟨h.hin.more b,h.hkey,h.hrest,h.hjob.more b⟩
def Jb.small (j:Jb):Prop:=j.bare.length≤1152921504606846976∧j.mi.length≤1152921504606846976∧j.mm.length≤1152921504606846976∧j.mo.length≤1152921504606846976
def Lens3 (f:Nat→Option Value) (v:Bool):Prop:=∃ A1 n1 c1 A2 n2 c2 A3 n3 c3,f 2=some (.slice A1 n1 c1)∧f 3=some (.slice A2 n2 c2)∧f 4=some (.slice A3 n3 c3)∧n1≤1152921504606846976∧n2≤1152921504606846976∧n3≤1152921504606846976∧v=decide (n1+n2+n3=0)
theorem JobAt.lens3 {w:World} {B:Nat} {f:Nat→Option Value} {j:Jb} (h:JobAt w B f j) (hs:j.small):Lens3 f j.emptyB:=by
  obtain ⟨_,l1,l2,l3⟩:=hs
  obtain ⟨A1,c1,h5,_⟩:=h.h2
  obtain ⟨A2,c2,h6,_⟩:=h.h3
  obtain ⟨A3,c3,h7,_⟩:=h.h4
  exact ⟨A1,_,c1,A2,_,c2,A3,_,c3,h5,h6,h7,l1,l2,l3,rfl⟩
theorem pa_bare_ (cs:Array Value) (v:Bool) (W:World) (h:Lens3 (fun i=>cs[3+i]?) v) :
    Calls Tryz.prog 32 #[.agg cs] W (Ret (.bool v) W):=by
  obtain ⟨A1,n1,c1,A2,n2,c2,A3,n3,c3,h5,h6,h7,l1,l2,l3,he0⟩:=h
  have B0:=Blk.new W 91 cs _ rfl
  have hb:=bAl (bRefl W) (.cells cs 91)
  have k5:=(B0.cell 5).trans h5
  have k6:=(B0.cell 6).trans h6
  have k7:=(B0.cell 7).trans h7
  have he:=Lib.hid he0
  clear h5 h6 h7 he0
  go_enter Tryz.func32,Tryz.ntmps32
  go_wp2_with fail
  go_ret
  refine ⟨ret_bool ?_,hb⟩
  rw [he.out]
  rw [Bool.eq_iff_iff];simp;omega
theorem pa_asked1 (cs st:Array Value) (m:Int) (k:Value) (W:World) (h:st[73]?=some (.int .i64 m)) :
    Calls Tryz.prog 77 #[.agg cs,.agg st,k] W (Ret (.bool (m != -1)) W):=by
  have B0:=Blk.new (W.alloc (.cells cs 91)) 97 st (W.heap.size+1) (by simp)
  have hb:=bAl (bAl (bRefl W) (.cells cs 91)) (.cells st 97)
  have k5:=(B0.cell 73).trans h
  clear h
  go_enter Tryz.func77,Tryz.ntmps77
  go_wp2_with fail
  go_ret
  exact ⟨rfl,hb⟩
theorem pa_asked (W:World) :
    Calls Tryz.prog 35 #[] W fun e w'=>e = .returned (.slice (some ⟨W.heap.size,0,none⟩) 3 3) ∧
      w'=W.alloc (.cells #[.int .i64 5,.func (.func 77) #[] #[],.int .i64 3,.func (.func 78) #[] #[],.int .i64 4,.func (.func 79) #[] #[]] 101):=by
  go_enter Tryz.func35,Tryz.ntmps35
  go_wp2_with fail
  go_ret
  exact ⟨rfl,rfl⟩
theorem Rd.one {w:World} {B k n b off:Nat} {l:List Ltr} {x:Ltr} (h:Rd w B 6 (some ⟨b,off,none⟩) n (l.flatMap Ltr.cl)) (hk:k<n) (hx:l[k]?=some x):Rd w B 6 (some ⟨b,off+k*6,none⟩) 1 ([x].flatMap Ltr.cl):=by
  obtain ⟨b',off',e,hb,c0,c1,c2,c3,c4,c5⟩:=Ltr_at h hk hx
  injection e with e
  injection e with e1 e2
  subst e1;subst e2
  refine ⟨rfl,fun _=>⟨_,_,rfl,hb,fun j u hu=>?_⟩⟩
  have hj:j<6:=by have:=(List.getElem?_eq_some_iff.1 hu).1;simpa [Ltr.cl] using this
  obtain rfl | rfl | rfl | rfl | rfl | rfl:j=0∨j=1∨j=2∨j=3∨j=4∨j=5:=by omega
  all_goals
    simp [Ltr.cl] at hu
    subst hu
    assumption
end Go.Proofs.YtgkpomdegomgiaaGreatDoor

/- frankinglaw56.ArbiterSpec, walked. -/
import Derived.Test.YtoeobcmmafncmaaGreatDoorSbw
import Derived.Test.YtoeobcmmafncmaaGreatDoorSbt
import Derived.Test.YtoeobcmmafncmaaGreatDoorSbm
import Derived.Test.YtoeobcmmafncmaaGreatDoorSab
import Derived.Test.YtoeobcmmafncmaaGreatDoorSao
import Derived.Handed
import Derived.Test.YtoeobcmmafncmaaGreatDoorSat
import Derived.Test.YtoeobcmmafncmaaGreatDoorSam
import Derived.Test.YtoeobcmmafncmaaGreatDoorRows
import Derived.Test.YtoeobcmmafncmaaGreatDoorTie
import Derived.Test.YtoeobcmmafncmaaGreatDoorCards
import Derived.LaidLaws
import Derived.LaidHandle
import Derived.SevenTiedAt
import Derived.ChangeSame
import Derived.ChangeVars
import Derived.JoinedOf
import Derived.RowKit
import Derived.FnData
import Derived.Test.YtoeobcmmafncmaaGreatDoorSaq
import Derived.Test.YtoeobcmmafncmaaGreatDoorSbi
set_option maxRecDepth 1000000
set_option maxHeartbeats 16000000
namespace Go.Proofs.YtoeobcmmafncmaaGreatDoor
open Go.RowKit
theorem lw_spec56 (hP:JudgeOk) (cs:Array Value) (jcs:List (Array Value)) (a:Ca) (l:List Int) (Al:Option Addr) (cl:Nat) (W:World) (hG:ShaG W) (h:CaseAt W W.heap.size cs jcs a.c) (hca:a.c.few=true→CaAt W W.heap.size cs jcs a)
  (hl:Rd W W.heap.size 1 Al l.length (ints l)) (hlc:l.length≤cl) (hlc2:cl≤9223372036854775807) :
  Calls Tryz.prog 3 #[.slice Al l.length cl,.agg cs] W (Ret (.bool true) W):=by
 have BC:=Blk.new W 33 cs _ rfl
 have hb:=bAl (bRefl W) (.cells cs 33)
 go_enter Tryz.func3,Tryz.ntmps3
 go_upto_region 1 with fail
 generalize W.alloc (.cells cs 33)=w1 at *
 have q:=aw_sane hP w1 (hG.below hb)
 go_wp2_with fail
 (with_reducible refine q.mono ?_)
 rintro e w2 ⟨rfl,b2⟩
 clear q
 replace BC:=BC.below b2 BC.lt
 replace hb:=bCall hb b2
 clear b2
 have LC:=load_case BC h.size
 have qf:=ref_fewcase cs jcs a.c w2 ((h.below hb).more hb.size)
 go_upto_region 3 with fail
 apply wp_region_lit
 refine wpList_loadG (by rfl) (by rfl) (by rfl) LC ?_
 simp only [Act.put,List.setIfInBounds_toArray,List.set_cons_zero,List.set_cons_succ]
 clear LC
 cases hf:a.c.few
 ·rw [hf] at qf
  go_wp2_with fail
  (with_reducible refine qf.mono ?_)
  rintro e w3 ⟨rfl,b3⟩
  go_wp2_with fail
  go_ret
  exact ⟨rfl,bCall hb b3⟩
 rw [hf] at qf
 have CA:=hca hf
 obtain ⟨hkl,hjl,-,hfl⟩:=few_le hf
 clear hf hca
 by_cases hl40:40<l.length
 ·have t:(40:Int)<(l.length:Int):=by omega
  go_wp2_with fail
  (with_reducible refine qf.mono ?_)
  rintro e w3 ⟨rfl,b3⟩
  go_wp2_with fail
  go_ret
  exact ⟨rfl,bCall hb b3⟩
 have t40:¬(40:Int)<(l.length:Int):=by omega
 go_wp2_with fail
 (with_reducible refine qf.mono ?_)
 rintro e w3 ⟨rfl,b3⟩
 replace BC:=BC.below b3 BC.lt
 replace hb:=bCall hb b3
 clear b3 qf
 have LC:=load_case BC h.size
 have CA3:=(CA.below hb).more hb.size
 have hl3:=(hl.below hb).more hb.size
 obtain ⟨x,y,e,hR⟩:∃ x y e,a.judge l=(x,y,e):=⟨_,_,_,rfl⟩
 have q:=hP.of CA3 rfl hl3 (by omega) hlc hlc2 (hG.below hb) hR
 replace hR:=Lib.hid hR
 clear CA3
 go_upto_region 5 with fail
 apply wp_region_lit
 iterate 3 go_step
 refine wpList_loadG (by rfl) (by rfl) (by rfl) LC ?_
 simp only [Act.put,List.setIfInBounds_toArray,List.set_cons_zero,List.set_cons_succ]
 clear LC
 go_wp2_with fail
 (with_reducible refine q.mono ?_)
 rintro e1 w5 ⟨rfl,b5⟩
 clear q hl3
 replace BC:=BC.below b5 BC.lt
 replace hb:=bCall hb b5
 clear b5
 go_upto_region 6 with fail
 have BV:=Blk.new w5 37 #[.int .i64 x,.int .i64 y] _ rfl
 replace BC:=BC.alloc (.cells #[.int .i64 x,.int .i64 y] 37)
 replace hb:=bAl hb (.cells #[.int .i64 x,.int .i64 y] 37)
 generalize w5.alloc (.cells #[.int .i64 x,.int .i64 y] 37)=w6 at *
 generalize w5.heap.size=vb at *
 have LC:=load_case BC h.size
 have q:=ref_judge56 a l Al cl cs jcs w6 ((CA.below hb).more hb.size) ((hl.below hb).more hb.size) (by omega) hlc hlc2 (by omega) (by omega) hkl
 rw [hR.out] at q
 unfold judV at q
 apply wp_region_lit
 iterate 3 go_step
 refine wpList_loadG (by rfl) (by rfl) (by rfl) LC ?_
 simp only [Act.put,List.setIfInBounds_toArray,List.set_cons_zero,List.set_cons_succ]
 clear LC
 go_wp2_with fail
 (with_reducible refine q.mono ?_)
 rintro e1 w7 ⟨rfl,b7⟩
 clear q
 replace BV:=BV.below b7 BV.lt
 replace hb:=bCall hb b7
 clear b7 BC
 go_upto_region 7 with fail
 have BU:=Blk.new w7 37 #[.int .i64 x,.int .i64 y] _ rfl
 replace BV:=BV.alloc (.cells #[.int .i64 x,.int .i64 y] 37)
 replace hb:=bAl hb (.cells #[.int .i64 x,.int .i64 y] 37)
 generalize w7.alloc (.cells #[.int .i64 x,.int .i64 y] 37)=w8 at *
 generalize w7.heap.size=ub at *
 obtain ⟨x0,x1,-,-⟩:=BV.two_
 obtain ⟨u0,u1,-,-⟩:=BU.two_
 go_wp2_with fail
 go_ret
 exact ⟨rfl,hb⟩
end Go.Proofs.YtoeobcmmafncmaaGreatDoor
namespace Go.Proofs.YtoeobcmmafncmaaGreatDoor
open Go.ChangeShapes Go.WideShapes Go.ChangeAt Go.RowKit Go.Deep
section
variable {H:Type} {enc:TypeId×Value→H} {P:Program} {w:World} {base:Nat} {spare:Nat→Bool} {held:Bool}
def Light (P:Program) (t:TypeId) (d:DataW H):Prop:=(d.weights P t).all (·≤reachBytes)=true
theorem light_all {e:TypeId} : ∀ {l:List (DataW H)},(DataW.weightsAll P e l).all (·≤reachBytes)=true→∀ d∈l,Light P e d
 | [],_,d,h=>by cases h
 | a::l,h,d,hd=>by
  rw [DataW.weightsAll,List.all_append,Bool.and_eq_true] at h
  rcases List.mem_cons.1 hd with rfl | hd
  ·exact h.1
  ·exact light_all h.2 d hd
theorem light_each:∀ {ts:List TypeId} {l:List (DataW H)},(DataW.weightsEach P ts l).all (·≤reachBytes)=true→∀ (i:Nat) t d,ts[i]?=some t→l[i]?=some d→Light P t d
 | [],_,_,i,t,d,ht,_=>by simp at ht
 | _::_,[],_,i,t,d,_,hd=>by simp at hd
 | t0::ts,d0::l,h,i,t,d,ht,hd=>by
  rw [DataW.weightsEach,List.all_append,Bool.and_eq_true] at h
  cases i with
  | zero =>
   simp only [List.getElem?_cons_zero,Option.some.injEq] at ht hd
   subst ht;subst hd
   exact h.1
  | succ i =>
   simp only [List.getElem?_cons_succ] at ht hd
   exact light_each h.2 i t d ht hd
theorem open_struct_w {t:TypeId} {fs:Array Field} {fuel:Nat} {cs:List Value} {x:DataW H×List MemPlace} (ht:P.underlying t=some (.struct fs)) (h:DataW.trod enc P w base spare held fuel t cs=some x) (hw:Light P t x.1) :
  cs.length=P.cellsOf t∧∃ n,∀ (i:Nat) (f:Field),fs[i]?=some f→∃ y,DataW.trod enc P w base spare held n f.type ((cs.drop f.offset).take (P.cellsOf f.type))=some y∧Light P f.type y.1:=by
 obtain ⟨xs,n,_,rfl,hl,hxl,hf⟩:=DataW.trod_struct ht h
 refine ⟨hl,n,fun i f hi=>?_⟩
 have hlt:i<fs.size:=(Array.getElem?_eq_some_iff.1 hi).1
 have hx:xs[i]?=some xs[i]:=List.getElem?_eq_getElem (by omega)
 refine ⟨xs[i],(hf i f hi).trans hx,?_⟩
 unfold Light DataW.weights at hw
 rw [ht] at hw
 refine light_each hw i f.type xs[i].1 ?_ ?_
 ·rw [List.getElem?_map,←Array.getElem?_toList] at *
  rw [hi];rfl
 ·rw [List.getElem?_map,hx];rfl
theorem open_array_w {t e:TypeId} {k fuel:Nat} {cs:List Value} {x:DataW H×List MemPlace} (ht:P.underlying t=some (.array k e)) (h:DataW.trod enc P w base spare held fuel t cs=some x) (hw:Light P t x.1) :
  cs.length=P.cellsOf t∧∃ n,∀ i,i<k→∃ y,DataW.trod enc P w base spare held n e ((cs.drop (i*P.cellsOf e)).take (P.cellsOf e))=some y∧Light P e y.1:=by
 obtain ⟨xs,n,_,rfl,hl,hxl,hf⟩:=DataW.trod_array ht h
 refine ⟨hl,n,fun i hi=>?_⟩
 have hx:xs[i]?=some xs[i]:=List.getElem?_eq_getElem (by omega)
 refine ⟨xs[i],(hf i hi).trans hx,?_⟩
 unfold Light DataW.weights at hw
 rw [ht] at hw
 exact light_all hw _ (List.mem_map.2 ⟨xs[i],List.getElem_mem _,rfl⟩)
theorem open_slice_w {α:Type} {f:α→List Value} {Pr:α→Prop} {t e:TypeId} {sz fuel:Nat} {cs:List Value} {x:DataW H×List MemPlace} (ht:P.underlying t=some (.slice e)) (hsz:P.cellsOf e=sz) (hs:0<sz)
  (hel:∀ (n:Nat) (cs:List Value) (y:DataW H×List MemPlace),DataW.trod enc P w base spare held n e cs=some y→Light P e y.1→∃ a,cs=f a∧(f a).length=sz∧Pr a)
  (h:DataW.trod enc P w base spare held fuel t cs=some x) (hw:Light P t x.1) :
  ∃ (A:Option Addr) (c:Nat) (l:List α),cs=[.slice A l.length c]∧l.length≤c∧c≤maxLen∧l.length*P.bytesOf e≤reachBytes∧Rd w w.heap.size sz A l.length (l.flatMap f)∧(∀ y∈l,(f y).length=sz∧Pr y):=by
 rcases open_slice ht h with ⟨rfl,_⟩ | ⟨a,len,cap,m,n,D,Pl,rfl,hb,hl,hm,hmm,rfl,hx⟩
 ·exact ⟨none,0,[],rfl,Nat.zero_le _,Nat.zero_le _,by simp,Rd.nil_,fun y hy=>by cases hy⟩
 ·rw [hsz] at hx
  have hlm:len≤m:=by rw [hmm];split <;> omega
  unfold Light DataW.weights at hw
  rw [ht] at hw
  simp only [List.all_cons,List.all_append,Bool.and_eq_true,decide_eq_true_eq,List.length_map,List.length_range] at hw
  obtain ⟨hby,hw1,_⟩:=hw
  have hby':len*P.bytesOf e≤reachBytes:=Nat.le_trans (Nat.mul_le_mul_right _ (by omega)) hby
  have hli:∀ i,i<len→Light P e (D i):=fun i hi=>light_all hw1 _ (List.mem_map.2 ⟨i,List.mem_range.2 hi,rfl⟩)
  rcases Nat.eq_zero_or_pos len with h0 | hpos
  ·subst h0
   exact ⟨some a,cap,[],rfl,Nat.zero_le _,hm,by simp,⟨by simp,fun h=>absurd h (by simp)⟩,fun y hy=>by cases hy⟩
  ·obtain ⟨cs0,_,ht0⟩:=hx 0 (by omega)
   obtain ⟨a0,_,_⟩:=hel _ _ _ ht0 (hli 0 hpos)
   haveI:Inhabited α:=⟨a0⟩
   obtain ⟨V,hV⟩:=choose_lt (α:=α) (n:=len) (p:=fun i y=>w.cells? base (a.add (i*sz)) sz=some (f y)∧(f y).length=sz∧Pr y) (fun i hi=>by
    obtain ⟨cs',h1,h2⟩:=hx i (by omega)
    obtain ⟨y,rfl,hy⟩:=hel _ _ _ h2 (hli i hi)
    exact ⟨y,h1,hy⟩)
   have hmem:∀ y∈(List.range len).map V,(f y).length=sz∧Pr y:=fun y hy=>by
    obtain ⟨i,hi,rfl⟩:=List.mem_map.1 hy
    exact (hV i (List.mem_range.1 hi)).2
   have hlen:((List.range len).map V).length=len:=by simp
   have hfl:(((List.range len).map V).flatMap f).length=len*sz:=by rw [flat_length _ (fun y hy=>(hmem y hy).1),hlen]
   refine ⟨some a,cap,(List.range len).map V,by rw [hlen],by rw [hlen];exact hl,hm,by rw [hlen];exact hby',?_,hmem⟩
   rw [hlen]
   refine ⟨hfl,fun _=>?_⟩
   have hc0:∀ i j u,i<len→(f (V i))[j]?=some u→w.cell? (a.add (i*sz+j))=some u:=by
    intro i j u hi hu
    obtain ⟨_,hlen,hat⟩:=World.cells?_some (hV i hi).1
    have hj:j<sz:=by
     have:=(List.getElem?_eq_some_iff.1 hu).1
     rw [(hV i hi).2.1] at this
     exact this
    have:=hat j hj
    rw [add_of_add] at this
    rw [this];exact hu
   obtain ⟨u0,hu0⟩:∃ u,(f (V 0))[0]?=some u:=⟨_,List.getElem?_eq_getElem (by rw [(hV 0 hpos).2.1];exact hs)⟩
   have hcell:=hc0 0 0 u0 hpos hu0
   obtain ⟨b,off,spot⟩:=a
   have hspot:spot=none:=by simpa [Addr.add] using World.cell?_spot hcell
   subst hspot
   refine ⟨b,off,rfl,?_,?_⟩
   ·have:(⟨b,off,none⟩:Addr).add (0*sz+0)=⟨b,off,none⟩:=by simp [Addr.add]
    rw [this] at hcell
    unfold World.cell? at hcell
    cases hh:w.heap[b]? with
    | none=>simp [hh] at hcell
    | some o=>exact (Array.getElem?_eq_some_iff.1 hh).1
   ·intro j u hu
    have hjl:j<len*sz:=by
     have:=(List.getElem?_eq_some_iff.1 hu).1
     rwa [hfl] at this
    have hi:j / sz<len:=by rw [Nat.div_lt_iff_lt_mul hs];exact hjl
    have hdm:j=j / sz*sz+j % sz:=by rw [Nat.mul_comm];exact (Nat.div_add_mod j sz).symm
    have hmod:=Nat.mod_lt j hs
    rw [hdm,flat_mem _ (j / sz) (j % sz) (V (j / sz)) (fun y hy=>(hmem y hy).1) (by simp [hi]) hmod] at hu
    have:=hc0 (j / sz) (j % sz) u hi hu
    rw [←hdm] at this
    have ha:(⟨b,off,none⟩:Addr).add j=⟨b,off+j,none⟩:=by
     unfold Addr.add
     split
     ·rename_i h;subst h;rfl
     ·rfl
    rwa [ha] at this
end
theorem drop_parts (cs:List Value) (o m:Nat):cs.drop o=(cs.drop o).take m++cs.drop (o+m):=by
 rw [←List.drop_drop,List.take_append_drop]
theorem at_part {cs l:List Value} {o m j:Nat} {v:Value} (h:(cs.drop o).take m=l) (hv:l[j]?=some v):cs[o+j]?=some v:=by
 rw [←h,List.getElem?_take] at hv
 split at hv
 ·rwa [List.getElem?_drop] at hv
 ·cases hv
theorem cover {Q:Value→Prop} {cs l:List Value} (o m:Nat) (h:(cs.drop o).take m=l) (hl:∀ v∈l,Q v) (k:∀ v∈cs.drop (o+m),Q v):∀ v∈cs.drop o,Q v:=by
 rw [drop_parts cs o m,h]
 intro v hv
 rcases List.mem_append.1 hv with hv | hv
 ·exact hl v hv
 ·exact k v hv
theorem wf_i64 {z:Int} (h:(Lit.int .i64 z).wf=true):-9223372036854775808≤z∧z≤9223372036854775807:=by
 unfold Lit.wf at h
 simp only [Bool.and_eq_true,decide_eq_true_eq] at h
 exact h
theorem wf_u8 {z:Int} (h:(Lit.int .u8 z).wf=true):0≤z∧z≤255:=by
 unfold Lit.wf at h
 simp only [Bool.and_eq_true,decide_eq_true_eq] at h
 exact h
theorem c_int:Tryz.prog.cellsOf 3=1:=by kernel_rfl
theorem c_u8:Tryz.prog.cellsOf 5=1:=by kernel_rfl
theorem c_cipher:Tryz.prog.cellsOf 68=2:=by kernel_rfl
theorem c_equal:Tryz.prog.cellsOf 110=2:=by kernel_rfl
theorem c_sealed:Tryz.prog.cellsOf 70=6:=by kernel_rfl
theorem c_equals:Tryz.prog.cellsOf 115=6:=by kernel_rfl
theorem c_digest:Tryz.prog.cellsOf 49=32:=by kernel_rfl
theorem c_opened:Tryz.prog.cellsOf 84=36:=by kernel_rfl
theorem c_step:Tryz.prog.cellsOf 86=74:=by kernel_rfl
theorem c_job:Tryz.prog.cellsOf 55=49:=by kernel_rfl
theorem c_mix:Tryz.prog.cellsOf 47=5:=by kernel_rfl
theorem c_hand:Tryz.prog.cellsOf 53=42:=by kernel_rfl
theorem c_run:Tryz.prog.cellsOf 24=3:=by kernel_rfl
theorem c_sig:Tryz.prog.cellsOf 51=2:=by kernel_rfl
theorem c_path:Tryz.prog.cellsOf 31=8:=by kernel_rfl
theorem c_case:Tryz.prog.cellsOf 33=15:=by kernel_rfl
theorem c_words:Tryz.prog.cellsOf 28=3:=by kernel_rfl
theorem c_three:Tryz.prog.cellsOf 27=3:=by kernel_rfl
theorem c_ls:Tryz.prog.cellsOf 25=1:=by kernel_rfl
theorem c_ps:Tryz.prog.cellsOf 44=1:=by kernel_rfl
theorem c_ds:Tryz.prog.cellsOf 45=1:=by kernel_rfl
theorem c_is:Tryz.prog.cellsOf 22=1:=by kernel_rfl
theorem c_js:Tryz.prog.cellsOf 26=1:=by kernel_rfl
theorem c_ss:Tryz.prog.cellsOf 29=1:=by kernel_rfl
theorem b_int:Tryz.prog.bytesOf 3=8:=by kernel_rfl
theorem b_sealed:Tryz.prog.bytesOf 70=48:=by kernel_rfl
theorem b_job:Tryz.prog.bytesOf 55=280:=by kernel_rfl
section
variable {H:Type} {enc:TypeId×Value→H} {w:World} {base:Nat} {spare:Nat→Bool} {held:Bool}
theorem in_int {n:Nat} {cs:List Value} {y:DataW H×List MemPlace} (h:DataW.trod enc Tryz.prog w base spare held n 3 cs=some y):∃ z,cs=[.int .i64 z]∧inI z:=by
 obtain ⟨z,h1,_,h2⟩:=DataW.trod_int Tryz.underlying3 h
 exact ⟨z,h1,wf_i64 h2⟩
theorem in_pair {t:TypeId} {f0 f1:Field} (ht:Tryz.prog.underlying t=some (.struct #[f0,f1])) (h0:f0.type=3∧f0.offset=0) (h1:f1.type=3∧f1.offset=1) (hc:Tryz.prog.cellsOf t=2) {n:Nat} {cs:List Value} {y:DataW H×List MemPlace}
  (h:DataW.trod enc Tryz.prog w base spare held n t cs=some y) (hw:Light Tryz.prog t y.1):∃ a b,cs=[.int .i64 a,.int .i64 b]∧inI a∧inI b:=by
 obtain ⟨hl,m,hf⟩:=open_struct_w ht h hw
 obtain ⟨y0,q0,-⟩:=hf 0 f0 rfl
 obtain ⟨y1,q1,-⟩:=hf 1 f1 rfl
 rw [h0.1,h0.2,c_int] at q0
 rw [h1.1,h1.2,c_int] at q1
 obtain ⟨a,e0,i0⟩:=in_int q0
 obtain ⟨b,e1,i1⟩:=in_int q1
 rw [hc] at hl
 refine ⟨a,b,?_,i0,i1⟩
 rw [←List.drop_zero (l:=cs),drop_parts cs 0 1,e0,drop_parts cs (0+1) 1,e1,List.drop_eq_nil_of_le (by omega)]
 rfl
def Ltr.io (x:Ltr):Prop:=(inI x.a0∧inI x.b0)∧(inI x.a1∧inI x.b1)∧(inI x.a2∧inI x.b2)
theorem in_three {t e:TypeId} (ht:Tryz.prog.underlying t=some (.array 3 e)) (hc:Tryz.prog.cellsOf t=6) (he:Tryz.prog.cellsOf e=2)
  (hp:∀ {n:Nat} {cs:List Value} {y:DataW H×List MemPlace},DataW.trod enc Tryz.prog w base spare held n e cs=some y→Light Tryz.prog e y.1→∃ a b,cs=[.int .i64 a,.int .i64 b]∧inI a∧inI b) {n:Nat} {cs:List Value} {y:DataW H×List MemPlace}
  (h:DataW.trod enc Tryz.prog w base spare held n t cs=some y) (hw:Light Tryz.prog t y.1):∃ l:Ltr,cs=l.cl∧l.io:=by
 obtain ⟨hl,m,hf⟩:=open_array_w ht h hw
 obtain ⟨y0,q0,l0⟩:=hf 0 (by omega)
 obtain ⟨y1,q1,l1⟩:=hf 1 (by omega)
 obtain ⟨y2,q2,l2⟩:=hf 2 (by omega)
 rw [he] at q0 q1 q2
 obtain ⟨a0,b0,e0,i0⟩:=hp q0 l0
 obtain ⟨a1,b1,e1,i1⟩:=hp q1 l1
 obtain ⟨a2,b2,e2,i2⟩:=hp q2 l2
 rw [hc] at hl
 refine ⟨⟨a0,b0,a1,b1,a2,b2⟩,?_,i0,i1,i2⟩
 rw [show 0*2=0 from rfl] at e0
 rw [show 1*2=2 from rfl] at e1
 rw [show 2*2=4 from rfl] at e2
 rw [←List.drop_zero (l:=cs),drop_parts cs 0 2,e0,drop_parts cs (0+2) 2,e1,drop_parts cs (0+2+2) 2,e2,List.drop_eq_nil_of_le (by omega)]
 rfl
theorem in_sealed (n:Nat) (cs:List Value) (y:DataW H×List MemPlace) (h:DataW.trod enc Tryz.prog w base spare held n 70 cs=some y) (hw:Light Tryz.prog 70 y.1):∃ l:Ltr,cs=l.cl∧l.cl.length=6∧l.io:=by
 obtain ⟨l,e,io⟩:=in_three Tryz.underlying70 c_sealed c_cipher (fun h hw=>in_pair Tryz.underlying68 ⟨rfl,rfl⟩ ⟨rfl,rfl⟩ c_cipher h hw) h hw
 exact ⟨l,e,rfl,io⟩
theorem in_equals (n:Nat) (cs:List Value) (y:DataW H×List MemPlace) (h:DataW.trod enc Tryz.prog w base spare held n 115 cs=some y) (hw:Light Tryz.prog 115 y.1):∃ l:Ltr,cs=l.cl∧l.cl.length=6∧True:=by
 obtain ⟨l,e,-⟩:=in_three Tryz.underlying115 c_equals c_equal (fun h hw=>in_pair Tryz.underlying110 ⟨rfl,rfl⟩ ⟨rfl,rfl⟩ c_equal h hw) h hw
 exact ⟨l,e,rfl,trivial⟩
theorem in_digest (n:Nat) (cs:List Value) (y:DataW H×List MemPlace) (h:DataW.trod enc Tryz.prog w base spare held n 49 cs=some y) (hw:Light Tryz.prog 49 y.1):∃ d:List Nat,cs=byts d∧(byts d).length=32∧(d.length=32∧okB d):=by
 obtain ⟨hl,m,hf⟩:=open_array_w Tryz.underlying49 h hw
 rw [c_digest] at hl
 obtain ⟨V,hV⟩:=choose_lt (α:=Nat) (n:=32) (p:=fun i z=>cs[i]?=some (.int .u8 (z:Nat))∧z<256) (fun i hi=>by
  obtain ⟨y,q,-⟩:=hf i hi
  rw [c_u8,Nat.mul_one] at q
  obtain ⟨z,e,_,hz⟩:=DataW.trod_int Tryz.underlying5 q
  have hz':=wf_u8 hz
  refine ⟨z.toNat,?_,by omega⟩
  have:=at_part (j:=0) e rfl
  rw [Nat.add_zero] at this
  rw [this,show ((z.toNat:Nat):Int)=z by omega])
 have he:cs=byts ((List.range 32).map V):=by
  apply List.ext_getElem?
  intro i
  rcases Nat.lt_or_ge i 32 with hi | hi
  ·rw [(hV i hi).1];simp [byts,hi]
  ·rw [List.getElem?_eq_none (by omega),List.getElem?_eq_none (by simpa [byts] using hi)]
 refine ⟨(List.range 32).map V,he,by simp [byts],by simp,fun x hx=>?_⟩
 obtain ⟨i,hi,rfl⟩:=List.mem_map.1 hx
 exact (hV i (List.mem_range.1 hi)).2
theorem in_ls {n:Nat} {cs:List Value} {y:DataW H×List MemPlace} (h:DataW.trod enc Tryz.prog w base spare held n 25 cs=some y) (hw:Light Tryz.prog 25 y.1) :
  ∃ A c,∃ l:List Ltr,cs=[.slice A l.length c]∧LsAt w w.heap.size (some (.slice A l.length c)) l∧l.length≤1152921504606846976∧∀ x∈l,x.io:=by
 obtain ⟨A,c,l,rfl,h1,h2,h3,h4,h5⟩:=open_slice_w Tryz.underlying25 c_sealed (by omega) in_sealed h hw
 rw [b_sealed] at h3
 unfold reachBytes at h3
 unfold maxLen at h2
 exact ⟨A,c,l,rfl,⟨A,c,rfl,h4,h1,by omega⟩,by omega,fun x hx=>(h5 x hx).2⟩
theorem in_ps {n:Nat} {cs:List Value} {y:DataW H×List MemPlace} (h:DataW.trod enc Tryz.prog w base spare held n 44 cs=some y) (hw:Light Tryz.prog 44 y.1) :
  ∃ A c,∃ l:List Ltr,cs=[.slice A l.length c]∧LsAt w w.heap.size (some (.slice A l.length c)) l:=by
 obtain ⟨A,c,l,rfl,h1,h2,h3,h4,-⟩:=open_slice_w Tryz.underlying44 c_equals (by omega) in_equals h hw
 unfold maxLen at h2
 exact ⟨A,c,l,rfl,⟨A,c,rfl,h4,h1,by omega⟩⟩
theorem in_ds {n:Nat} {cs:List Value} {y:DataW H×List MemPlace} (h:DataW.trod enc Tryz.prog w base spare held n 45 cs=some y) (hw:Light Tryz.prog 45 y.1) :
  ∃ A c,∃ l:List (List Nat),cs=[.slice A l.length c]∧DsAt w w.heap.size (some (.slice A l.length c)) l:=by
 obtain ⟨A,c,l,rfl,h1,h2,h3,h4,h5⟩:=open_slice_w Tryz.underlying45 c_digest (by omega) in_digest h hw
 unfold maxLen at h2
 exact ⟨A,c,l,rfl,⟨A,c,rfl,h4,h1,by omega,fun d hd=>(h5 d hd).2⟩⟩
theorem in_ints {t:TypeId} (ht:Tryz.prog.underlying t=some (.array 3 3)) (hc:Tryz.prog.cellsOf t=3) {n:Nat} {cs:List Value} {y:DataW H×List MemPlace} (h:DataW.trod enc Tryz.prog w base spare held n t cs=some y) (hw:Light Tryz.prog t y.1) :
  ∃ a b c,cs=[.int .i64 a,.int .i64 b,.int .i64 c]∧inI a∧inI b∧inI c:=by
 obtain ⟨hl,m,hf⟩:=open_array_w ht h hw
 obtain ⟨y0,q0,l0⟩:=hf 0 (by omega)
 obtain ⟨y1,q1,l1⟩:=hf 1 (by omega)
 obtain ⟨y2,q2,l2⟩:=hf 2 (by omega)
 rw [c_int] at q0 q1 q2
 obtain ⟨a,e0,k0⟩:=in_int q0
 obtain ⟨b,e1,k1⟩:=in_int q1
 obtain ⟨c,e2,k2⟩:=in_int q2
 rw [hc] at hl
 refine ⟨a,b,c,?_,k0,k1,k2⟩
 rw [show 0*1=0 from rfl] at e0
 rw [show 1*1=1 from rfl] at e1
 rw [show 2*1=2 from rfl] at e2
 rw [←List.drop_zero (l:=cs),drop_parts cs 0 1,e0,drop_parts cs (0+1) 1,e1,drop_parts cs (0+1+1) 1,e2,List.drop_eq_nil_of_le (by omega)]
 rfl
theorem in_opened {n:Nat} {cs:List Value} {y:DataW H×List MemPlace} (h:DataW.trod enc Tryz.prog w base spare held n 84 cs=some y) (hw:Light Tryz.prog 84 y.1):∃ o:Opn,cs=o.cl∧o.ok:=by
 obtain ⟨hl,m,hf⟩:=open_struct_w Tryz.underlying84 h hw
 rw [c_opened] at hl
 obtain ⟨y0,q0,l0⟩:=hf 0 _ rfl
 obtain ⟨y1,q1,l1⟩:=hf 1 _ rfl
 obtain ⟨y2,q2,l2⟩:=hf 2 _ rfl
 simp only [List.getElem_toArray,List.getElem_cons_zero,List.getElem_cons_succ] at q0 q1 q2 l0 l1 l2
 rw [c_int] at q0
 rw [c_three] at q1
 rw [c_digest] at q2
 obtain ⟨a,e0,k0⟩:=in_int q0
 obtain ⟨r0,r1,r2,e1,g0,g1,g2⟩:=in_ints Tryz.underlying27 c_three q1 l1
 obtain ⟨d,e2,-,k2,k3⟩:=in_digest _ _ _ q2 l2
 refine ⟨⟨a,r0,r1,r2,d⟩,?_,k0,g0,g1,g2,k2,k3⟩
 rw [←List.drop_zero (l:=cs),drop_parts cs 0 1,e0,drop_parts cs (0+1) 3,e1,drop_parts cs (0+1+3) 32,e2,List.drop_eq_nil_of_le (by omega)]
 show _=[_,_,_,_]++byts d
 simp
theorem in_step (n:Nat) (cs:List Value) (y:DataW H×List MemPlace) (h:DataW.trod enc Tryz.prog w base spare held n 86 cs=some y) (hw:Light Tryz.prog 86 y.1):∃ s:Stp,cs=s.cl∧s.cl.length=74∧s.ok:=by
 obtain ⟨hl,m,hf⟩:=open_struct_w Tryz.underlying86 h hw
 rw [c_step] at hl
 obtain ⟨y0,q0,l0⟩:=hf 0 _ rfl
 obtain ⟨y1,q1,l1⟩:=hf 1 _ rfl
 obtain ⟨y2,q2,l2⟩:=hf 2 _ rfl
 obtain ⟨y3,q3,l3⟩:=hf 3 _ rfl
 simp only [List.getElem_toArray,List.getElem_cons_zero,List.getElem_cons_succ] at q0 q1 q2 q3 l0 l1 l2 l3
 rw [c_int] at q0 q3
 rw [c_opened] at q1 q2
 obtain ⟨a,e0,k0⟩:=in_int q0
 obtain ⟨o1,e1,k1⟩:=in_opened q1 l1
 obtain ⟨o2,e2,k2⟩:=in_opened q2 l2
 obtain ⟨b,e3,k3⟩:=in_int q3
 have he:cs=(⟨a,o1,o2,b⟩:Stp).cl:=by
  rw [←List.drop_zero (l:=cs),drop_parts cs 0 1,e0,drop_parts cs (0+1) 36,e1,drop_parts cs (0+1+36) 36,e2,drop_parts cs (0+1+36+36) 1,e3,List.drop_eq_nil_of_le (by omega),List.append_nil]
  rfl
 exact ⟨⟨a,o1,o2,b⟩,he,by rw [←he];exact hl,k0,k1,k2,k3⟩
theorem one_ints {l:List Value} (h:∀ v∈l,∃ z,v = .int .i64 z):∀ v∈l,v.oneCell'=true:=fun v hv=>by obtain ⟨z,rfl⟩:=h v hv;rfl
theorem in_run {n:Nat} {cs:List Value} {y:DataW H×List MemPlace} (h:DataW.trod enc Tryz.prog w base spare held n 24 cs=some y) (hw:Light Tryz.prog 24 y.1):∃ a b c,cs=[.int .i64 a,.int .i64 b,.int .i64 c]∧inI a∧inI b∧inI c:=by
 obtain ⟨hl,m,hf⟩:=open_struct_w Tryz.underlying24 h hw
 rw [c_run] at hl
 obtain ⟨y0,q0,-⟩:=hf 0 _ rfl
 obtain ⟨y1,q1,-⟩:=hf 1 _ rfl
 obtain ⟨y2,q2,-⟩:=hf 2 _ rfl
 simp only [List.getElem_toArray,List.getElem_cons_zero,List.getElem_cons_succ] at q0 q1 q2
 rw [c_int] at q0 q1 q2
 obtain ⟨a,e0,k0⟩:=in_int q0
 obtain ⟨b,e1,k1⟩:=in_int q1
 obtain ⟨c,e2,k2⟩:=in_int q2
 refine ⟨a,b,c,?_,k0,k1,k2⟩
 rw [←List.drop_zero (l:=cs),drop_parts cs 0 1,e0,drop_parts cs (0+1) 1,e1,drop_parts cs (0+1+1) 1,e2,List.drop_eq_nil_of_le (by omega)]
 rfl
theorem in_hand {n:Nat} {cs:List Value} {y:DataW H×List MemPlace} (h:DataW.trod enc Tryz.prog w base spare held n 53 cs=some y) (hw:Light Tryz.prog 53 y.1):∀ v∈cs,v.oneCell'=true:=by
 obtain ⟨hl,m,hf⟩:=open_struct_w Tryz.underlying53 h hw
 rw [c_hand] at hl
 obtain ⟨y0,q0,l0⟩:=hf 0 _ rfl
 obtain ⟨y1,q1,l1⟩:=hf 1 _ rfl
 obtain ⟨y2,q2,l2⟩:=hf 2 _ rfl
 obtain ⟨y3,q3,l3⟩:=hf 3 _ rfl
 obtain ⟨y4,q4,l4⟩:=hf 4 _ rfl
 obtain ⟨y5,q5,l5⟩:=hf 5 _ rfl
 obtain ⟨y6,q6,l6⟩:=hf 6 _ rfl
 obtain ⟨y7,q7,l7⟩:=hf 7 _ rfl
 simp only [List.getElem_toArray,List.getElem_cons_zero,List.getElem_cons_succ] at q0 q1 q2 q3 q4 q5 q6 q7 l0 l5 l7
 rw [c_run] at q0
 rw [c_int] at q1 q2 q3 q4 q6
 rw [c_digest] at q5
 rw [c_sig] at q7
 obtain ⟨a0,b0,g0,e0,-⟩:=in_run q0 l0
 obtain ⟨a1,e1,-⟩:=in_int q1
 obtain ⟨a2,e2,-⟩:=in_int q2
 obtain ⟨a3,e3,-⟩:=in_int q3
 obtain ⟨a4,e4,-⟩:=in_int q4
 obtain ⟨d,e5,-⟩:=in_digest _ _ _ q5 l5
 obtain ⟨a6,e6,-⟩:=in_int q6
 obtain ⟨a7,b7,e7,-⟩:=in_pair Tryz.underlying51 ⟨rfl,rfl⟩ ⟨rfl,rfl⟩ c_sig q7 l7
 have key:∀ v∈cs.drop 0,v.oneCell'=true:=by
  refine cover 0 3 e0 (one_ints (by simp)) ?_
  refine cover (0+3) 1 e1 (one_ints (by simp)) ?_
  refine cover (0+3+1) 1 e2 (one_ints (by simp)) ?_
  refine cover (0+3+1+1) 1 e3 (one_ints (by simp)) ?_
  refine cover (0+3+1+1+1) 1 e4 (one_ints (by simp)) ?_
  refine cover (0+3+1+1+1+1) 32 e5 (fun v hv=>byts_oneCell v hv) ?_
  refine cover (0+3+1+1+1+1+32) 1 e6 (one_ints (by simp)) ?_
  refine cover (0+3+1+1+1+1+32+1) 2 e7 (one_ints (by simp)) ?_
  rw [List.drop_eq_nil_of_le (by omega)]
  intro v hv;cases hv
 rw [List.drop_zero] at key
 exact key
theorem one_slice {A:Option Addr} {n c:Nat} : ∀ v∈[Value.slice A n c],v.oneCell'=true:=by
 intro v hv
 simp only [List.mem_cons,List.not_mem_nil,or_false] at hv
 subst hv;rfl
theorem in_job (n:Nat) (cs:List Value) (y:DataW H×List MemPlace) (h:DataW.trod enc Tryz.prog w base spare held n 55 cs=some y) (hw:Light Tryz.prog 55 y.1) :
  ∃ a:Array Value×Jb,cs=a.1.toList∧a.1.toList.length=49∧JobIn' w w.heap.size a.1 a.2∧(∀ x∈a.2.mo,x.io)∧∃ n y,DataW.trod enc Tryz.prog w base spare held n 53 ((a.1.toList.drop 7).take 42)=some y∧Light Tryz.prog 53 y.1:=by
 obtain ⟨hl,m,hf⟩:=open_struct_w Tryz.underlying55 h hw
 rw [c_job] at hl
 obtain ⟨y0,q0,l0⟩:=hf 0 _ rfl
 obtain ⟨y1,q1,l1⟩:=hf 1 _ rfl
 obtain ⟨y2,q2,l2⟩:=hf 2 _ rfl
 obtain ⟨y3,q3,l3⟩:=hf 3 _ rfl
 simp only [List.getElem_toArray,List.getElem_cons_zero,List.getElem_cons_succ] at q0 q1 q2 q3 l0 l1 l2 l3
 rw [c_ls] at q0
 rw [c_ps] at q1
 rw [c_mix] at q2
 rw [c_hand] at q3
 obtain ⟨hl2,m2,hf2⟩:=open_struct_w Tryz.underlying47 q2 l2
 obtain ⟨z0,p0,k0⟩:=hf2 0 _ rfl
 obtain ⟨z1,p1,k1⟩:=hf2 1 _ rfl
 obtain ⟨z2,p2,k2⟩:=hf2 2 _ rfl
 obtain ⟨z3,p3,k3⟩:=hf2 3 _ rfl
 obtain ⟨z4,p4,k4⟩:=hf2 4 _ rfl
 simp only [List.getElem_toArray,List.getElem_cons_zero,List.getElem_cons_succ] at p0 p1 p2 p3 p4 k0 k1 k2 k3 k4
 rw [c_ls] at p0 p1 p2
 rw [c_ds] at p3 p4
 obtain ⟨A0,c0,b0,e0,r0,s0,-⟩:=in_ls q0 l0
 obtain ⟨A1,c1,b1,e1,r1⟩:=in_ps q1 l1
 obtain ⟨A2,c2,b2,e2,r2,s2,-⟩:=in_ls p0 k0
 obtain ⟨A3,c3,b3,e3,r3,s3,-⟩:=in_ls p1 k1
 obtain ⟨A4,c4,b4,e4,r4,s4,o4⟩:=in_ls p2 k2
 obtain ⟨A5,c5,b5,e5,r5⟩:=in_ds p3 k3
 obtain ⟨A6,c6,b6,e6,r6⟩:=in_ds p4 k4
 have d0:cs[0]?=some (.slice A0 b0.length c0):=at_part (j:=0) e0 rfl
 have d1:cs[1]?=some (.slice A1 b1.length c1):=at_part (j:=0) e1 rfl
 have d2:cs[2]?=some (.slice A2 b2.length c2):=at_part (o:=2) (j:=0) rfl (at_part (j:=0) e2 rfl)
 have d3:cs[3]?=some (.slice A3 b3.length c3):=at_part (o:=2) (j:=1) rfl (at_part (j:=0) e3 rfl)
 have d4:cs[4]?=some (.slice A4 b4.length c4):=at_part (o:=2) (j:=2) rfl (at_part (j:=0) e4 rfl)
 have d5:cs[5]?=some (.slice A5 b5.length c5):=at_part (o:=2) (j:=3) rfl (at_part (j:=0) e5 rfl)
 have d6:cs[6]?=some (.slice A6 b6.length c6):=at_part (o:=2) (j:=4) rfl (at_part (j:=0) e6 rfl)
 have hm:∀ v∈(cs.drop 2).take 5,v.oneCell'=true:=by
  have hl5:((cs.drop 2).take 5).length=5:=by rw [List.length_take,List.length_drop];omega
  generalize (cs.drop 2).take 5=ms at *
  have key:∀ v∈ms.drop 0,v.oneCell'=true:=by
   refine cover 0 1 e2 one_slice ?_
   refine cover (0+1) 1 e3 one_slice ?_
   refine cover (0+1+1) 1 e4 one_slice ?_
   refine cover (0+1+1+1) 1 e5 one_slice ?_
   refine cover (0+1+1+1+1) 1 e6 one_slice ?_
   rw [List.drop_eq_nil_of_le (by omega)]
   intro v hv;cases hv
  rw [List.drop_zero] at key
  exact key
 have key:∀ v∈cs.drop 0,v.oneCell'=true:=by
  refine cover 0 1 e0 one_slice ?_
  refine cover (0+1) 1 e1 one_slice ?_
  refine cover (0+1+1) 5 rfl hm ?_
  refine cover (0+1+1+5) 42 rfl (in_hand q3 l3) ?_
  rw [List.drop_eq_nil_of_le (by omega)]
  intro v hv;cases hv
 rw [List.drop_zero] at key
 refine ⟨(cs.toArray,⟨b0,b1,b2,b3,b4,b5,b6⟩),by simp,by simpa using hl,⟨by simpa using hl,by simpa using key,⟨?_,?_,?_,?_,?_,?_,?_⟩,s0,s2,s3,s4⟩,o4,m,y3,q3,l3⟩
 all_goals
  simp only [List.getElem?_toArray,d0,d1,d2,d3,d4,d5,d6]
  assumption
theorem in_case {n:Nat} {cs:List Value} {y:DataW H×List MemPlace} (h:DataW.trod enc Tryz.prog w base spare held n 33 cs=some y) (hw:Light Tryz.prog 33 y.1) :
  ∃ jcs c,CaseAt w w.heap.size cs.toArray jcs c∧(∃ t,cs[14]?=some (.int .i64 t))∧c.first.length≤1152921504606846976∧c.keys.length≤1152921504606846976∧c.jobs.length≤1152921504606846976∧(∀ x∈c.keys,inI x)∧(∃ a b d,cs[0]?=some (.int .i64 a)∧cs[1]?=some (.int .i64 b)∧cs[2]?=some (.int .i64 d)) ∧
   ∀ (k:Nat) (jc:Array Value),jcs[k]?=some jc→(∀ x∈(c.jobAt k).mo,x.io)∧∃ n y,DataW.trod enc Tryz.prog w base spare held n 53 ((jc.toList.drop 7).take 42)=some y∧Light Tryz.prog 53 y.1:=by
 obtain ⟨hl,m,hf⟩:=open_struct_w Tryz.underlying33 h hw
 rw [c_case] at hl
 obtain ⟨y0,q0,l0⟩:=hf 0 _ rfl
 obtain ⟨y1,q1,l1⟩:=hf 1 _ rfl
 obtain ⟨y2,q2,l2⟩:=hf 2 _ rfl
 obtain ⟨y3,q3,l3⟩:=hf 3 _ rfl
 obtain ⟨y4,q4,l4⟩:=hf 4 _ rfl
 obtain ⟨y5,q5,l5⟩:=hf 5 _ rfl
 simp only [List.getElem_toArray,List.getElem_cons_zero,List.getElem_cons_succ] at q0 q1 q2 q3 q4 q5 l0 l1 l2 l3 l4
 rw [c_run] at q0
 rw [c_ls] at q1
 rw [c_is] at q2
 rw [c_js] at q3
 rw [c_path] at q4
 rw [c_int] at q5
 obtain ⟨hl2,m2,hf2⟩:=open_struct_w Tryz.underlying31 q4 l4
 obtain ⟨z0,p0,k0⟩:=hf2 0 _ rfl
 obtain ⟨z1,p1,k1⟩:=hf2 1 _ rfl
 obtain ⟨z2,p2,k2⟩:=hf2 2 _ rfl
 obtain ⟨z3,p3,k3⟩:=hf2 3 _ rfl
 simp only [List.getElem_toArray,List.getElem_cons_zero,List.getElem_cons_succ] at p0 p1 p2 p3 k1 k2 k3
 rw [c_int] at p0
 rw [c_words] at p1
 rw [c_three] at p2
 rw [c_ss] at p3
 obtain ⟨ra,rb,rc,e0,-⟩:=in_run q0 l0
 obtain ⟨A1,c1,b1,e1,r1,s1,-⟩:=in_ls q1 l1
 obtain ⟨A2,c2,b2,e2,g21,g22,g23,r2,g2i⟩:=open_slice_w Tryz.underlying22 c_int (by omega) (f:=fun z:Int=>[Value.int .i64 z]) (Pr:=inI) (fun n cs y h _=>by obtain ⟨z,e,hz⟩:=in_int h;exact ⟨z,e,rfl,hz⟩) q2 l2
 obtain ⟨A3,c3,b3,e3,g31,g32,g33,r3,hj3⟩:=open_slice_w Tryz.underlying26 c_job (by omega) (f:=fun a:Array Value×Jb=>a.1.toList) in_job q3 l3
 obtain ⟨pl,f0,-⟩:=in_int p0
 obtain ⟨wx,wy,wz,f1,-⟩:=in_ints Tryz.underlying28 c_words p1 k1
 obtain ⟨x0,x1,x2,f2,-⟩:=in_ints Tryz.underlying27 c_three p2 k2
 obtain ⟨A4,c4,b4,f3,g41,g42,g43,r4,hj4⟩:=open_slice_w Tryz.underlying29 c_step (by omega) in_step p3 k3
 obtain ⟨tm,f5,-⟩:=in_int q5
 rw [b_int] at g23
 rw [b_job] at g33
 unfold reachBytes at g23 g33
 have d0:cs[0]?=some (.int .i64 ra):=at_part (j:=0) e0 rfl
 have d1:cs[1]?=some (.int .i64 rb):=at_part (j:=1) e0 rfl
 have d2:cs[2]?=some (.int .i64 rc):=at_part (j:=2) e0 rfl
 have d3:cs[3]?=some (.slice A1 b1.length c1):=at_part (j:=0) e1 rfl
 have d4:cs[4]?=some (.slice A2 b2.length c2):=at_part (j:=0) e2 rfl
 have d5:cs[5]?=some (.slice A3 b3.length c3):=at_part (j:=0) e3 rfl
 have d6:cs[6]?=some (.int .i64 pl):=at_part (o:=6) (j:=0) rfl (at_part (j:=0) f0 rfl)
 have d7:cs[7]?=some (.int .i64 wx):=at_part (o:=6) (j:=1) rfl (at_part (o:=1) (j:=0) f1 rfl)
 have d8:cs[8]?=some (.int .i64 wy):=at_part (o:=6) (j:=2) rfl (at_part (o:=1) (j:=1) f1 rfl)
 have d9:cs[9]?=some (.int .i64 wz):=at_part (o:=6) (j:=3) rfl (at_part (o:=1) (j:=2) f1 rfl)
 have d10:cs[10]?=some (.int .i64 x0):=at_part (o:=6) (j:=4) rfl (at_part (o:=4) (j:=0) f2 rfl)
 have d11:cs[11]?=some (.int .i64 x1):=at_part (o:=6) (j:=5) rfl (at_part (o:=4) (j:=1) f2 rfl)
 have d12:cs[12]?=some (.int .i64 x2):=at_part (o:=6) (j:=6) rfl (at_part (o:=4) (j:=2) f2 rfl)
 have d13:cs[13]?=some (.slice A4 b4.length c4):=at_part (o:=6) (j:=7) rfl (at_part (o:=7) (j:=0) f3 rfl)
 have d14:cs[14]?=some (.int .i64 tm):=at_part (j:=0) f5 rfl
 have hm:∀ v∈(cs.drop 6).take 8,v.oneCell'=true:=by
  have hl5:((cs.drop 6).take 8).length=8:=by rw [List.length_take,List.length_drop];omega
  generalize (cs.drop 6).take 8=ms at *
  have key:∀ v∈ms.drop 0,v.oneCell'=true:=by
   refine cover 0 1 f0 (one_ints (by simp)) ?_
   refine cover (0+1) 3 f1 (one_ints (by simp)) ?_
   refine cover (0+1+3) 3 f2 (one_ints (by simp)) ?_
   refine cover (0+1+3+3) 1 f3 one_slice ?_
   rw [List.drop_eq_nil_of_le (by omega)]
   intro v hv;cases hv
  rw [List.drop_zero] at key
  exact key
 have key:∀ v∈cs.drop 0,v.oneCell'=true:=by
  refine cover 0 3 e0 (one_ints (by simp)) ?_
  refine cover (0+3) 1 e1 one_slice ?_
  refine cover (0+3+1) 1 e2 one_slice ?_
  refine cover (0+3+1+1) 1 e3 one_slice ?_
  refine cover (0+3+1+1+1) 8 rfl hm ?_
  refine cover (0+3+1+1+1+8) 1 f5 (one_ints (by simp)) ?_
  rw [List.drop_eq_nil_of_le (by omega)]
  intro v hv;cases hv
 rw [List.drop_zero] at key
 have hfi:b2.flatMap (fun z:Int=>[Value.int .i64 z])=ints b2:=ints_flat b2
 rw [hfi] at r2
 have hjob:∀ (k:Nat) (jc:Array Value),(b3.map (·.1))[k]?=some jc→∃ a:Array Value×Jb,a.1=jc∧(Cs.mk b1 b2 (b3.map (·.2)) pl ⟨wx,wy,wz⟩ x0 x1 x2 b4).jobAt k=a.2∧_:=fun k jc hk=>by
  rw [List.getElem?_map] at hk
  cases hb:b3[k]? with
  | none=>rw [hb] at hk;cases hk
  | some a =>
   rw [hb] at hk
   refine ⟨a,by simpa using hk,?_,(hj3 a (List.mem_of_getElem? hb)).2⟩
   unfold Cs.jobAt
   rw [List.getD_eq_getElem?_getD,List.getElem?_map,hb];rfl
 refine ⟨b3.map (·.1),⟨b1,b2,b3.map (·.2),pl,⟨wx,wy,wz⟩,x0,x1,x2,b4⟩,?_,⟨tm,d14⟩,s1,by show b2.length≤_;omega,by show (b3.map _).length≤_;rw [List.length_map];omega,fun x hx=>(g2i x hx).2,⟨ra,rb,rc,d0,d1,d2⟩,?_⟩
 refine ⟨by simpa using hl,by simpa using key,?_,⟨A2,c2,by simpa using d4,r2⟩,⟨A3,c3,by simpa using d5,?_⟩,by simp,?_,by simpa using d6,by simpa using d7,by simpa using d8,by simpa using d9,by simpa using d10,by simpa using d11,by simpa using d12,⟨A4,c4,by simpa using d13,r4⟩,fun s hs=>(hj4 s hs).2⟩
 ·rw [List.getElem?_toArray,d3];exact r1
 ·rw [List.length_map,List.flatMap_map];exact r3
 ·intro k jc hk
  obtain ⟨a,rfl,hja,hj⟩:=hjob k jc hk
  rw [hja]
  exact hj.1
 ·intro k jc hk
  obtain ⟨a,rfl,hja,hj⟩:=hjob k jc hk
  rw [hja]
  exact hj.2
end
end Go.Proofs.YtoeobcmmafncmaaGreatDoor
namespace Go.Proofs.YtoeobcmmafncmaaGreatDoor
open Go.ChangeShapes Go.WideShapes Go.RowKit
theorem agg_of_cells {v:Value} (h:v.cells.size≠1):∃ cs:Array Value,v = .agg cs∧v.cells=cs:=by
 cases v <;> first | exact ⟨_,rfl,rfl⟩ | exact absurd rfl h
theorem trodAll_stays {H:Type} {enc:TypeId×Value→H} {W W':World} (hb:Below W.heap.size W W'):∀ {ts:List TypeId} {vs:List Value} {ds:List (DataW H)} {ps:List MemPlace},
  (∀ t∈ts,Tryz.prog.readableRec t=true∧t<Tryz.prog.types.size)→DataW.TrodAll enc Tryz.prog W 0 (fun _=>true) true ts vs ds ps→DataW.TrodAll enc Tryz.prog W' 0 (fun b=>decide (b<W.heap.size)) true ts vs ds ps
 | [],[],[],_,_,h=>h
 | t::ts,v::vs,d::ds,ps,hr,h=>by
  obtain ⟨p,q,h1,h2,rfl⟩:=h
  obtain ⟨r1,r2⟩:=hr t (by simp)
  exact ⟨p,q,Below.trod laid_out r1 r2 h1 hb (by obtain ⟨m,hm⟩:=h1;exact DataW.trod_lt m _ _ _ hm),trodAll_stays hb (fun t ht=>hr t (by simp [ht])) h2,rfl⟩
 | [],_::_,_,_,_,h=>by cases h
 | [],[],_::_,_,_,h=>by cases h
 | _::_,[],_,_,_,h=>by cases h
 | _::_,_::_,[],_,_,h=>by cases h
noncomputable def shaLaid:List (String×DataW Unit):=[("franking/digest.start",Rows.laid_franking_digest_start),("franking/digest.numbers",Rows.laid_franking_digest_numbers)]
def u32D (l:List Nat):List (DataW Unit):=l.map fun x => .lit (.int .u32 (x:Nat))
theorem laid_start_is:(Rows.laid_franking_digest_start:DataW Unit) = .agg (u32D shaS.list):=rfl
theorem laid_numbers_is:(Rows.laid_franking_digest_numbers:DataW Unit) = .agg (u32D shaK):=rfl
theorem glob_start:Tryz.prog.globalNamed "franking/digest.start" = some 0:=by kernel_rfl
theorem glob_numbers:Tryz.prog.globalNamed "franking/digest.numbers" = some 1:=by kernel_rfl
noncomputable def globIs (g n:Nat):Bool:=match (Tryz.prog.globals[g]?).map (·.type) with
 | some t=>match Tryz.prog.underlying t with
  | some (.array m e)=>m==n&&(e==196)
  | _=>false
 | none=>false
theorem globIs_out {g n:Nat} (h:globIs g n=true) {t:TypeId} (ht:(Tryz.prog.globals[g]?).map (·.type)=some t):Tryz.prog.underlying t=some (.array n 196):=by
 unfold globIs at h
 rw [ht] at h
 simp only at h
 split at h
 ·rename_i m e hu
  simp only [Bool.and_eq_true,beq_iff_eq] at h
  rw [hu,h.1,h.2]
 ·cases h
theorem cells_u32:Tryz.prog.cellsOf 196=1:=by kernel_rfl
theorem laid_cells {w:World} {base:Nat} {sp:Nat→Bool} {held:Bool} {fuel n:Nat} {t:TypeId} {cs:List Value} {l:List Nat} {p:List MemPlace} (ht:Tryz.prog.underlying t=some (.array n 196)) (hl:l.length=n)
  (h:DataW.trod (fun _=>()) Tryz.prog w base sp held fuel t cs=some (.agg (u32D l),p)) (i x:Nat) (hi:l[i]?=some x):cs[i]?=some (.int .u32 (x:Nat)):=by
 obtain ⟨xs,m,_,e,_,hxl,hf⟩:=DataW.trod_array ht h
 have hlt:i<n:=by rw [←hl];exact (List.getElem?_eq_some_iff.1 hi).1
 have h1:=hf i hlt
 rw [cells_u32,Nat.mul_one] at h1
 obtain ⟨y,hy⟩:∃ y,xs[i]?=some y:=⟨_,List.getElem?_eq_getElem (by omega)⟩
 rw [hy] at h1
 obtain ⟨z,e1,e2,_⟩:=DataW.trod_int Tryz.underlying196 h1
 have e3:u32D l=xs.map (·.1):=by
  have:=congrArg Prod.fst e
  injection this
 have e4:(u32D l)[i]?=some y.1:=by rw [e3,List.getElem?_map,hy];rfl
 have e5:(u32D l)[i]?=some (.lit (.int .u32 (x:Nat))):=by unfold u32D;rw [List.getElem?_map,hi];rfl
 rw [e4,e2] at e5
 have e6:z=(x:Nat):=by simpa using e5
 have:=at_part (o:=i) (m:=1) (j:=0) e1 rfl
 rw [Nat.add_zero] at this
 rw [this,e6]
theorem cell_lt {w:World} {g i:Nat} {v:Value} (h:w.cell? ⟨g,i,none⟩=some v):g<w.heap.size:=by
 unfold World.cell? at h
 cases hh:w.heap[g]? with
 | none=>simp [hh] at h
 | some o=>exact (Array.getElem?_eq_some_iff.1 hh).1
theorem sha_of_laid {w:World} (h:laidMetH Tryz.prog shaLaid w):ShaG w:=by
 have h':laidMet Tryz.prog shaLaid w:=h
 obtain ⟨ps,⟨g,t,cs,fuel,p,q,hg,ht,hv,hd,⟨g2,t2,cs2,fuel2,p2,q2,hg2,ht2,hv2,hd2,_,_⟩,_⟩,_,_⟩:=h'
 obtain rfl:=Option.some.inj (glob_start.symm.trans hg)
 obtain rfl:=Option.some.inj (glob_numbers.symm.trans hg2)
 rw [laid_start_is] at hd
 rw [laid_numbers_is] at hd2
 have a1:=globIs_out (n:=8) (by kernel_rfl) ht
 have a2:=globIs_out (n:=64) (by kernel_rfl) ht2
 have f1:∀ i x,shaS.list[i]?=some x→w.cell? ⟨0,i,none⟩=some (.int .u32 (x:Nat)):=fun i x hx=>by
  rw [World.var?_cell glob_start hv,←Array.getElem?_toList]
  exact laid_cells a1 rfl hd i x hx
 have f2:∀ i x,shaK[i]?=some x→w.cell? ⟨1,i,none⟩=some (.int .u32 (x:Nat)):=fun i x hx=>by
  rw [World.var?_cell glob_numbers hv2,←Array.getElem?_toList]
  exact laid_cells a2 rfl hd2 i x hx
 exact ⟨f2,f1,cell_lt (f2 0 _ rfl),cell_lt (f1 0 _ rfl)⟩
def u32C (l:List Nat):Array Value:=(l.map fun x=>Value.int .u32 (x:Nat)).toArray
noncomputable def laidWorld (os:Os):World :=
 let w0:=World.holding Tryz.prog os ⟨#[],#[],[]⟩
 { w0 with heap:=(w0.heap.modify 0 fun
   | .cells _ t frozen => .cells (u32C shaS.list) t frozen
   | o=>o).modify 1 fun
   | .cells _ t frozen => .cells (u32C shaK) t frozen
   | o=>o }
end Go.Proofs.YtoeobcmmafncmaaGreatDoor
namespace Go.Proofs.YtoeobcmmafncmaaGreatDoor
open Go.ChangeShapes Go.WideShapes Go.ChangeAt Go.RowKit Go.Deep
section
variable {H:Type} {enc:TypeId×Value→H} {w:World} {base:Nat} {spare:Nat→Bool} {held:Bool}
theorem in_hd {n:Nat} {cs:List Value} {y:DataW H×List MemPlace} (h:DataW.trod enc Tryz.prog w base spare held n 53 cs=some y) (hw:Light Tryz.prog 53 y.1):∃ h:Hd,cs=h.cl∧h.ok:=by
 obtain ⟨hl,m,hf⟩:=open_struct_w Tryz.underlying53 h hw
 rw [c_hand] at hl
 obtain ⟨y0,q0,l0⟩:=hf 0 _ rfl
 obtain ⟨y1,q1,l1⟩:=hf 1 _ rfl
 obtain ⟨y2,q2,l2⟩:=hf 2 _ rfl
 obtain ⟨y3,q3,l3⟩:=hf 3 _ rfl
 obtain ⟨y4,q4,l4⟩:=hf 4 _ rfl
 obtain ⟨y5,q5,l5⟩:=hf 5 _ rfl
 obtain ⟨y6,q6,l6⟩:=hf 6 _ rfl
 obtain ⟨y7,q7,l7⟩:=hf 7 _ rfl
 simp only [List.getElem_toArray,List.getElem_cons_zero,List.getElem_cons_succ] at q0 q1 q2 q3 q4 q5 q6 q7 l0 l5 l7
 rw [c_run] at q0
 rw [c_int] at q1 q2 q3 q4 q6
 rw [c_digest] at q5
 rw [c_sig] at q7
 obtain ⟨a0,b0,g0,e0,i0,i1,i2⟩:=in_run q0 l0
 obtain ⟨a1,e1,k1⟩:=in_int q1
 obtain ⟨a2,e2,k2⟩:=in_int q2
 obtain ⟨a3,e3,k3⟩:=in_int q3
 obtain ⟨a4,e4,k4⟩:=in_int q4
 obtain ⟨d,e5,-,k5⟩:=in_digest _ _ _ q5 l5
 obtain ⟨a6,e6,k6⟩:=in_int q6
 obtain ⟨a7,b7,e7,k7,k8⟩:=in_pair Tryz.underlying51 ⟨rfl,rfl⟩ ⟨rfl,rfl⟩ c_sig q7 l7
 refine ⟨⟨a0,b0,g0,a1,a2,a3,a4,d,a6,a7,b7⟩,?_,i0,i1,i2,k1,k2,k3,k4,k5,k6,k7,k8⟩
 rw [←List.drop_zero (l:=cs),drop_parts cs 0 3,e0,drop_parts cs (0+3) 1,e1,drop_parts cs (0+3+1) 1,e2,drop_parts cs (0+3+1+1) 1,e3,drop_parts cs (0+3+1+1+1) 1,e4,drop_parts cs (0+3+1+1+1+1) 32,e5,
  drop_parts cs (0+3+1+1+1+1+32) 1,e6,drop_parts cs (0+3+1+1+1+1+32+1) 2,e7,List.drop_eq_nil_of_le (by omega),List.append_nil]
 rfl
instance:Inhabited Hd:=⟨zeroH⟩
theorem few_mo {c:Cs} (h:c.few=true) (k:Nat):(c.jobAt k).mo.length≤1000:=by
 unfold Cs.few at h
 simp only [Bool.and_eq_true] at h
 have hall:=h.2.2.2.2.2
 unfold Cs.jobAt
 rw [List.getD_eq_getElem?_getD]
 cases hk:c.jobs[k]? with
 | none=>show 0≤1000;omega
 | some j =>
  have:=List.all_eq_true.1 hall j (List.mem_of_getElem? hk)
  unfold Jb.few at this
  simp only [Bool.and_eq_true] at this
  have:=fewB_le this.2.2.2.2.1
  show j.mo.length≤1000
  omega
theorem in_ca {n:Nat} {cs:List Value} {y:DataW H×List MemPlace} (h:DataW.trod enc Tryz.prog w base spare held n 33 cs=some y) (hw:Light Tryz.prog 33 y.1) :
  ∃ jcs a,CaseAt w w.heap.size cs.toArray jcs a.c∧(a.c.few=true→CaAt w w.heap.size cs.toArray jcs a):=by
 obtain ⟨jcs,c,hC,-,-,-,-,hk,⟨r0,r1,r2,d0,d1,d2⟩,hj⟩:=in_case h hw
 obtain ⟨V,hV⟩:=choose_lt (α:=Hd) (n:=c.jobs.length) (p:=fun k h=>∀ jc,jcs[k]?=some jc→(jc.toList.drop 7).take 42=h.cl∧h.ok) (fun k hi=>by
  obtain ⟨jk,hg⟩:∃ jk,jcs[k]?=some jk:=⟨_,List.getElem?_eq_getElem (by rw [hC.jlen];exact hi)⟩
  obtain ⟨n,y,t,l⟩:=(hj k _ hg).2
  obtain ⟨h,e1,e2⟩:=in_hd t l
  refine ⟨h,fun jc hjc=>?_⟩
  rw [hg] at hjc
  injection hjc with hjc
  rw [←hjc]
  exact ⟨e1,e2⟩)
 refine ⟨jcs,⟨c,(List.range c.jobs.length).map V,r0,r1,r2⟩,hC,fun hfew=>⟨hC,by simpa using d0,by simpa using d1,by simpa using d2,by simp,fun k jc hd h1 h2 i v hv=>?_,fun hd hh=>?_,hk,fun k x hx=>?_,few_mo hfew⟩⟩
 ·have hlt:k<c.jobs.length:=by rw [←hC.jlen];exact (List.getElem?_eq_some_iff.1 h1).1
  have e:V k=hd:=by simpa [hlt] using h2
  obtain ⟨e1,e2⟩:=hV k hlt jc h1
  rw [e] at e1 e2
  have hi:i<42:=by have:=(List.getElem?_eq_some_iff.1 hv).1;rwa [Hd.cl_length e2] at this
  rw [←e1,List.getElem?_take,if_pos hi,List.getElem?_drop] at hv
  simpa using hv
 ·obtain ⟨k,hk',rfl⟩:=List.mem_map.1 hh
  have hlt:=List.mem_range.1 hk'
  exact (hV k hlt _ (List.getElem?_eq_getElem (by rw [hC.jlen];exact hlt))).2
 ·rcases Nat.lt_or_ge k c.jobs.length with hlt | hge
  ·exact (hj k _ (List.getElem?_eq_getElem (by rw [hC.jlen];exact hlt))).1 x hx
  ·have hz:c.jobAt k=zeroJ:=by unfold Cs.jobAt;rw [List.getD_eq_getElem?_getD,List.getElem?_eq_none hge];rfl
   rw [show ((⟨c,(List.range c.jobs.length).map V,r0,r1,r2⟩:Ca).c.jobAt k)=c.jobAt k from rfl,hz] at hx
   cases hx
end
def zCaseA:Array Value:=#[.int .i64 0,.int .i64 0,.int .i64 0,.slice none 0 0,.slice none 0 0,.slice none 0 0,.int .i64 0,.int .i64 0,.int .i64 0,.int .i64 0,.int .i64 0,.int .i64 0,.int .i64 0,.slice none 0 0,.int .i64 0]
end Go.Proofs.YtoeobcmmafncmaaGreatDoor

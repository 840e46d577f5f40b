/- The arbiter in plain words: hand-overs, roots, signatures, verdicts. No program here. -/
import Derived.Test.YtoeobcmmafncmaaGreatDoorSap
import Derived.Test.YtoeobcmmafncmaaGreatDoorSao
import Derived.Test.YtoeobcmmafncmaaGreatDoorSab
set_option maxRecDepth 1000000
set_option maxHeartbeats 16000000
namespace Go.Proofs.YtoeobcmmafncmaaGreatDoor
open Go.RowKit
structure Hd where
 line:Int
 at_:Int
 arrive:Int
 leg:Int
 from_:Int
 to_:Int
 many:Int
 root:List Nat
 time:Int
 e:Int
 s:Int
def Hd.cl (h:Hd):List Value:=[.int .i64 h.line,.int .i64 h.at_,.int .i64 h.arrive,.int .i64 h.leg,.int .i64 h.from_,.int .i64 h.to_,.int .i64 h.many]++(byts h.root++[.int .i64 h.time,.int .i64 h.e,.int .i64 h.s])
def Hd.ok (h:Hd):Prop:=inI h.line∧inI h.at_∧inI h.arrive∧inI h.leg∧inI h.from_∧inI h.to_∧inI h.many∧(h.root.length=32∧okB h.root)∧inI h.time∧inI h.e∧inI h.s
theorem Hd.cl_length {h:Hd} (ho:h.ok):h.cl.length=42:=by
 obtain ⟨_,_,_,_,_,_,_,⟨hr,_⟩,_⟩:=ho
 simp [Hd.cl,byts_length,hr]
theorem Hd.one (h:Hd):∀ v∈h.cl,v.oneCell'=true:=by
 intro v hv
 unfold Hd.cl at hv
 rcases List.mem_append.1 hv with hv | hv
 ·simp only [List.mem_cons,List.not_mem_nil,or_false] at hv
  rcases hv with rfl | rfl | rfl | rfl | rfl | rfl | rfl <;> rfl
 ·rcases List.mem_append.1 hv with hv | hv
  ·exact byts_oneCell v hv
  ·simp only [List.mem_cons,List.not_mem_nil,or_false] at hv
   rcases hv with rfl | rfl | rfl <;> rfl
theorem Hd.cells {h:Hd} (ho:h.ok):h.cl[0]?=some (.int .i64 h.line)∧h.cl[1]?=some (.int .i64 h.at_)∧h.cl[2]?=some (.int .i64 h.arrive)∧h.cl[3]?=some (.int .i64 h.leg)∧h.cl[4]?=some (.int .i64 h.from_)∧h.cl[5]?=some (.int .i64 h.to_)∧h.cl[6]?=some (.int .i64 h.many) ∧
  (∀ j,j<32→h.cl[7+j]?=(byts h.root)[j]?)∧h.cl[39]?=some (.int .i64 h.time)∧h.cl[40]?=some (.int .i64 h.e)∧h.cl[41]?=some (.int .i64 h.s):=by
 have hr:=ho.2.2.2.2.2.2.2.1.1
 have hl:(byts h.root).length=32:=by rw [byts_length,hr]
 unfold Hd.cl
 refine ⟨rfl,rfl,rfl,rfl,rfl,rfl,rfl,fun j hj=>?_,?_,?_,?_⟩
 ·rw [List.getElem?_append_right (by simp),List.getElem?_append_left (by rw [hl];simp;omega)]
  simp
 ·rw [List.getElem?_append_right (by simp),List.getElem?_append_right (by rw [hl];simp)]
  simp [hl]
 ·rw [List.getElem?_append_right (by simp),List.getElem?_append_right (by rw [hl];simp)]
  simp [hl]
 ·rw [List.getElem?_append_right (by simp),List.getElem?_append_right (by rw [hl];simp)]
  simp [hl]
def stB (l:List Nat):ByteArray:=⟨l.map (fun n=>UInt8.ofNat n) |>.toArray⟩
def Hd.its (h:Hd):List It:=[.int h.line,.int h.at_,.int h.arrive,.int h.leg,.int h.from_,.int h.to_,.int h.many,.text (dgS h.root),.int h.time]
def Hd.text (h:Hd):List Nat:=encN h.its
def tmB (n:Int):Bool:=decide (0≤n)&&decide (n<2097152)
def Hd.formed (h:Hd):Bool:=(tmB h.at_&&(tmB h.arrive&&tmB h.time))&&((decide (0≤h.from_∧h.from_<24)&&(decide (-1≤h.to_∧h.to_<24)&&decide (h.from_≠h.to_)))&&(decide (0≤h.line∧h.line<64)&&(decide (0≤h.leg∧h.leg≤8)&&decide (0≤h.many∧h.many≤64))))
def ptV (key E S:Int):Int:=mulV (powV 4 S) (powV key (-E))
def sgS:ByteArray:=⟨#[115,105,103,110]⟩
def sgV (pt key:Int) (b:List Nat):Nat:=hashV (sb sgS) (encN [.int pt,.int key,.text (dgS b)])
def sgB (key:Int) (b:List Nat) (E S:Int):Bool:=(validB key&&(ordB E&&ordB S))&&decide (E=(sgV (ptV key E S) key b:Nat))
def Hd.signed (key:Int) (h:Hd):Bool:=h.formed&&sgB key h.text h.e h.s
def nodS:List Nat:=[110,111,100,101]
def leaS:List Nat:=[108,101,97,102]
def nooS:List Nat:=[110,111,110,101]
def leafN (b:List Nat):List Nat:=shaN (shaN leaS++b)
def nodeN (a b:List Nat):List Nat:=shaN (shaN nodS++(a++b))
def upN:List (List Nat)→List (List Nat)
 | a::b::l=>nodeN a b::upN l
 | l=>l
theorem upN_length:∀ l:List (List Nat),(upN l).length=(l.length+1) / 2
 | []=>rfl
 | [_]=>by simp [upN]
 | a::b::l=>by
  show (nodeN a b::upN l).length=_
  rw [List.length_cons,upN_length l,List.length_cons,List.length_cons];omega
def rowN (l:List (List Nat)):Nat→List (List Nat)
 | 0=>l
 | k+1=>upN (rowN l k)
def topN:Nat→List (List Nat)→List Nat
 | 0,l=>l.headD []
 | f+1,l=>if l.length≤1 then l.headD [] else topN f (upN l)
def rootN (l:List (List Nat)):List Nat:=if l=[] then taggedN nooS [] else topN l.length (l.map leafN)
theorem leafN_len (b:List Nat):(leafN b).length=32:=shaN_len _
def dgOk (d:List Nat):Prop:=d.length=32∧okB d
theorem leafN_ok (b:List Nat):dgOk (leafN b):=⟨shaN_len _,okB_sha _⟩
theorem nodeN_ok (a b:List Nat):dgOk (nodeN a b):=⟨shaN_len _,okB_sha _⟩
theorem upN_ok:∀ {l:List (List Nat)},(∀ d∈l,dgOk d)→∀ d∈upN l,dgOk d
 | [],_,d,hd=>by cases hd
 | [a],h,d,hd=>h d hd
 | a::b::l,h,d,hd=>by
  rcases List.mem_cons.1 hd with rfl | hd
  ·exact nodeN_ok a b
  ·exact upN_ok (l:=l) (fun x hx=>h x (by simp [hx])) d hd
theorem topN_ok:∀ (f:Nat) {l:List (List Nat)},l≠[]→(∀ d∈l,dgOk d)→dgOk (topN f l)
 | f,[],h,_=>absurd rfl h
 | 0,a::l,_,h=>h a (by simp)
 | f+1,a::l,_,h=>by
  show dgOk (if (a::l).length≤1 then a else topN f (upN (a::l)))
  split
  ·exact h a (by simp)
  ·refine topN_ok f ?_ (upN_ok h)
   intro e
   have:=congrArg List.length e
   rw [upN_length,List.length_cons,List.length_nil] at this
   omega
theorem rootN_ok (l:List (List Nat)):dgOk (rootN l):=by
 unfold rootN
 split
 ·exact ⟨taggedN_len _ _,okB_sha _⟩
 ·rename_i h
  exact topN_ok _ (by simpa using h) (fun d hd=>by obtain ⟨x,_,rfl⟩:=List.mem_map.1 hd;exact leafN_ok x)
def Ltr.its (x:Ltr):List It:=[.int x.a0,.int x.b0,.int x.a1,.int x.b1,.int x.a2,.int x.b2]
def Ltr.txt (x:Ltr):List Nat:=encN x.its
def rootL (l:List Ltr):List Nat:=rootN (l.map Ltr.txt)
structure Ca where
 c:Cs
 hs:List Hd
 line:Int
 at_:Int
 arrive:Int
def zeroH:Hd:=⟨0,0,0,0,0,0,0,List.replicate 32 0,0,0,0⟩
def Ca.handAt (a:Ca) (k:Nat):Hd:=a.hs.getD k zeroH
def offAt (l:List Int) (k:Nat):Int:=l.getD k 0
def nextOff (l:List Int) (k:Nat):Int:=l.getD (k+1) (-1)
def Ca.right (a:Ca) (l:List Int) (k:Nat):Bool :=
 (decide ((a.handAt k).line=a.line∧(a.handAt k).at_=a.at_∧(a.handAt k).arrive=a.arrive)&&decide ((a.handAt k).leg=k))&&((decide ((a.handAt k).from_=offAt l k)&&decide ((a.handAt k).to_=nextOff l k)) &&
  ((decide ((a.handAt k).many=(a.c.jobAt k).mo.length)&&decide ((a.handAt k).root=rootL (a.c.jobAt k).mo))&&(a.handAt k).signed (a.c.keyAt k)))
def Ca.wrong (a:Ca) (l:List Int) (k:Nat):Bool:=!(a.c.jobAt k).emptyB && !a.right l k
def firstW (P:Nat→Bool):Nat→Nat→Option Nat
 | 0,_=>none
 | f+1,i=>if P i=true then some i else firstW P f (i+1)
theorem firstW_none {P:Nat→Bool} : ∀ {f i:Nat},firstW P f i=none↔∀ k,i≤k→k<i+f→P k=false
 | 0,i=>⟨fun _ k h1 h2=>by omega,fun _=>rfl⟩
 | f+1,i=>by
  show (if P i=true then some i else firstW P f (i+1))=none↔_
  by_cases h:P i=true
  ·rw [if_pos h]
   refine ⟨fun e=>(by cases e),fun e=>?_⟩
   rw [e i (Nat.le_refl _) (by omega)] at h
   cases h
  ·rw [if_neg h,firstW_none]
   constructor
   ·intro e k h1 h2
    by_cases hk:k=i
    ·subst hk;simpa using h
    ·exact e k (by omega) (by omega)
   ·intro e k h1 h2
    exact e k (by omega) (by omega)
theorem firstW_some {P:Nat→Bool} {h:Nat} : ∀ {f i:Nat},firstW P f i=some h→i≤h∧h<i+f∧P h=true∧∀ k,i≤k→k<h→P k=false
 | 0,i,e=>by cases e
 | f+1,i,e=>by
  change (if P i=true then some i else firstW P f (i+1))=some h at e
  by_cases hp:P i=true
  ·rw [if_pos hp] at e
   injection e with e
   subst e
   exact ⟨Nat.le_refl _,by omega,hp,fun k h1 h2=>by omega⟩
  ·rw [if_neg hp] at e
   obtain ⟨h1,h2,h3,h4⟩:=firstW_some e
   refine ⟨by omega,by omega,h3,fun k k1 k2=>?_⟩
   by_cases hk:k=i
   ·subst hk;simpa using hp
   ·exact h4 k (by omega) k2
def lineB:List Int→Bool
 | []=>true
 | o::l=>(decide (0≤o∧o<24) && !l.contains o)&&lineB l
def Ca.judge (a:Ca) (l:List Int):Int×Int×Int :=
 if lineB l=true∧l.length=a.c.keys.length then
  (if a.c.check.2.2≠0 then (0,0,a.c.check.2.2) else if a.c.check.2.1=1 then (-1,1,0) else
   match firstW (a.wrong l) (if a.c.check.2.1=0 then l.length else a.c.check.1.toNat) 0 with
   | some h=>((h:Int),2,0)
   | none=>if a.c.check.2.1=0 then (-1,0,0) else (a.c.check.1,a.c.check.2.1,0))
 else (0,0,560)
def idxI (x:Int) (l:List Int):Int:=match l.findIdx? (fun y=>decide (x=y)) with | some k=>(k:Int) | none => -1
theorem idxI_has (x:Int) (l:List Int):decide (idxI x l ≥ 0)=l.contains x:=by
 unfold idxI
 cases hf:l.findIdx? (fun y=>decide (x=y)) with
 | none =>
  rw [List.findIdx?_eq_none_iff] at hf
  have:l.contains x=false:=by
   rw [Bool.eq_false_iff]
   intro h
   have:=hf x (by simpa using h)
   simp at this
  rw [this];simp
 | some k =>
  rw [List.findIdx?_eq_some_iff_getElem] at hf
  obtain ⟨hk,hp,_⟩:=hf
  have:l.contains x=true:=by
   simp at hp
   simp [hp]
  rw [this];simp
theorem idxI_hit {x:Int} {l:List Int} {k:Nat} (h:∀ y∈l.take k,x≠y) (hx:l[k]?=some x):idxI x l=k:=by
 unfold idxI
 obtain ⟨hk,hxe⟩:=List.getElem?_eq_some_iff.1 hx
 have:l.findIdx? (fun y=>decide (x=y))=some k:=by
  rw [List.findIdx?_eq_some_iff_getElem]
  refine ⟨hk,by rw [hxe];simp,fun j hj=>?_⟩
  have hm:l[j]'(by omega)∈l.take k:=List.mem_take_iff_getElem.2 ⟨j,by omega,rfl⟩
  simpa using h _ hm
 rw [this]
theorem idxI_none {x:Int} {l:List Int} (h:∀ y∈l,x≠y):idxI x l = -1:=by
 unfold idxI
 rw [List.findIdx?_eq_none_iff.2 (fun y hy=>by simpa using h y hy)]
theorem sl_index (A:Option Addr) (c:Nat) (l:List Int) (x:Int) (W:World) (hA:Rd W W.heap.size 1 A l.length (ints l)) (hn:l.length≤9223372036854775807) :
  Calls Tryz.prog 53 #[.slice A l.length c,.int .i64 x] W (Same (.int .i64 (idxI x l)) W):=by
 go_enter Tryz.func53,Tryz.ntmps53
 go_wp2_with fail
 go_loopw [8] (fun i wr=>∃ k:Nat,k≤l.length∧i = .int .i64 k∧wr=W∧Hid (∀ y∈l.take k,x≠y)) (fun i _=>l.length - (intOf i).toNat)
 case atStart=>exact ⟨0,Nat.zero_le _,rfl,rfl,Lib.hid (by simp)⟩
 case round =>
  obtain ⟨k,hkn,rfl,rfl,hp⟩:=hrel
  by_cases hlt:k<l.length
  ·obtain ⟨y,hy⟩:∃ y,Hid (l[k]?=some y):=⟨_,Lib.hid (List.getElem?_eq_getElem hlt)⟩
   obtain ⟨b,off,rfl,hbb,hc⟩:=hA.2 (by omega)
   have d0:wr.cell? ⟨b,off+k,none⟩=some (.int .i64 y):=hc k _ (ints_at hy.out)
   clear hc
   by_cases he:x=y
   ·have hres:Hid (idxI x l=(k:Int)):=Lib.hid (idxI_hit hp.out (by rw [he];exact hy.out))
    go_wp2_with fail
    go_ret
    exact ⟨ret_int hres.out.symm,rfl⟩
   ·have hp':Hid (∀ z∈l.take (k+1),x≠z):=by
     intro z hz
     obtain ⟨hk,rfl⟩:=List.getElem?_eq_some_iff.1 hy.out
     rw [List.take_succ_eq_append_getElem hk] at hz
     rcases List.mem_append.1 hz with hz | hz
     ·exact hp.out z hz
     ·obtain rfl:z=l[k]:=by simpa using hz
      exact he
    go_wp2_with fail
    exact ⟨⟨k+1,by omega,by go_num,trivial,hp'⟩,by simp [intOf];omega⟩
  ·have hres:Hid (idxI x l = -1):=by
    have:=hp.out
    rw [List.take_of_length_le (by omega)] at this
    exact Lib.hid (idxI_none this)
   go_wp2_with fail
   go_ret
   exact ⟨ret_int hres.out.symm,rfl⟩
theorem sl_contains (A:Option Addr) (c:Nat) (l:List Int) (x:Int) (W:World) (hA:Rd W W.heap.size 1 A l.length (ints l)) (hn:l.length≤9223372036854775807) :
  Calls Tryz.prog 21 #[.slice A l.length c,.int .i64 x] W (Same (.bool (l.contains x)) W):=by
 have q:=sl_index A c l x W hA hn
 have hg:=idxI_has x l
 generalize idxI x l=i at *
 cases hall:l.contains x
 all_goals
  rw [hall] at hg
  have hg':=Lib.hid hg
  have h1:=hg
  simp at h1
  clear hg hall
  go_enter Tryz.func21,Tryz.ntmps21
  go_wp2_with fail
  (with_reducible refine q.mono ?_)
  rintro e w1 ⟨rfl,rfl⟩
  clear q
  go_wp2_with fail
  go_ret
  exact ⟨by first | rfl | exact ret_bool hg'.out,rfl⟩
def lineAt (l:List Int) (k:Nat):Bool:=decide (0≤l.getD k 0∧l.getD k 0<24) && !(l.take k).contains (l.getD k 0)
theorem lineB_spec:∀ l:List Int,lineB l=true↔(∀ o∈l,0≤o∧o<24)∧l.Nodup
 | []=>by simp [lineB]
 | o::l=>by
  show ((decide (0≤o∧o<24) && !l.contains o)&&lineB l)=true↔_
  rw [Bool.and_eq_true,Bool.and_eq_true,lineB_spec l,decide_eq_true_eq,Bool.not_eq_true',List.nodup_cons]
  have:l.contains o=false↔o ∉ l:=by rw [Bool.eq_false_iff];simp
  rw [this]
  constructor
  ·rintro ⟨⟨h1,h2⟩,h3,h4⟩
   refine ⟨fun x hx=>?_,h2,h4⟩
   rcases List.mem_cons.1 hx with rfl | hx
   ·exact h1
   ·exact h3 x hx
  ·rintro ⟨h1,h2,h3⟩
   exact ⟨⟨h1 o (by simp),h2⟩,fun x hx=>h1 x (by simp [hx]),h3⟩
theorem lineB_yes {l:List Int} (h:∀ k,k<l.length→lineAt l k=true):lineB l=true:=by
 rw [lineB_spec]
 have hget:∀ k (hk:k<l.length),l.getD k 0=l[k]:=fun k hk=>by simp [List.getD,hk]
 refine ⟨fun o ho=>?_,?_⟩
 ·obtain ⟨k,hk,rfl⟩:=List.getElem_of_mem ho
  have:=h k hk
  unfold lineAt at this
  rw [hget k hk,Bool.and_eq_true,decide_eq_true_eq] at this
  exact this.1
 ·unfold List.Nodup
  rw [List.pairwise_iff_getElem]
  intro i j hi hj hij e
  have:=h j hj
  unfold lineAt at this
  rw [hget j hj,Bool.and_eq_true] at this
  have h2:=this.2
  simp at h2
  refine h2 ?_
  rw [←e]
  exact List.mem_take_iff_getElem.2 ⟨i,by omega,rfl⟩
theorem lineB_no {l:List Int} {k:Nat} (hk:k<l.length) (h:lineAt l k=false):lineB l=false:=by
 rw [Bool.eq_false_iff]
 intro hl
 rw [lineB_spec] at hl
 obtain ⟨h1,h2⟩:=hl
 have hget:l.getD k 0=l[k]:=by simp [List.getD,hk]
 unfold lineAt at h
 rw [hget,decide_eq_true (h1 l[k] (List.getElem_mem hk)),Bool.true_and] at h
 simp at h
 obtain ⟨i,hi,he⟩:=List.mem_take_iff_getElem.1 h
 unfold List.Nodup at h2
 rw [List.pairwise_iff_getElem] at h2
 exact h2 i k (by omega) hk (by omega) he
theorem ar_line (A:Option Addr) (c:Nat) (l:List Int) (W:World) (hA:Rd W W.heap.size 1 A l.length (ints l)) (hn:l.length≤c) (hc2:c≤9223372036854775807) :
  Calls Tryz.prog 11 #[.slice A l.length c] W (Same (.bool (lineB l)) W):=by
 go_enter Tryz.func11,Tryz.ntmps11
 go_wp2_with fail
 go_loopw [7] (fun i wr=>∃ k:Nat,k≤l.length∧i = .int .i64 k∧wr=W∧Hid (∀ j,j<k→lineAt l j=true)) (fun i _=>l.length - (intOf i).toNat)
 case atStart=>exact ⟨0,Nat.zero_le _,rfl,rfl,Lib.hid (fun j hj=>by omega)⟩
 case round =>
  obtain ⟨k,hkn,rfl,rfl,hp⟩:=hrel
  by_cases hlt:k<l.length
  ·obtain ⟨y,hy⟩:∃ y,Hid (l[k]?=some y):=⟨_,Lib.hid (List.getElem?_eq_getElem hlt)⟩
   have hyg:Hid (l.getD k 0=y):=Lib.hid (by simp [List.getD,hy.out])
   obtain ⟨b,off,rfl,hbb,hc⟩:=hA.2 (by omega)
   have d0:wr.cell? ⟨b,off+k,none⟩=some (.int .i64 y):=hc k _ (ints_at hy.out)
   clear hc
   by_cases h0:y<0
   ·have hres:Hid (lineB l=false):=Lib.hid (lineB_no hlt (by unfold lineAt;rw [hyg.out,decide_eq_false (by omega)];rfl))
    go_wp2_with fail
    go_ret
    exact ⟨ret_bool hres.out.symm,rfl⟩
   ·by_cases h1 : 24 ≤ y
    ·have hres:Hid (lineB l=false):=Lib.hid (lineB_no hlt (by unfold lineAt;rw [hyg.out,decide_eq_false (by omega)];rfl))
     go_wp2_with fail
     go_ret
     exact ⟨ret_bool hres.out.symm,rfl⟩
    ·have hl:(l.take k).length=k:=by rw [List.length_take];omega
     have hR:=hA.pre k (by omega)
     have q:=sl_contains (some ⟨b,off,none⟩) c (l.take k) y wr (by rw [hl,ints,List.map_take];simpa [ints] using hR) (by omega)
     rw [hl] at q
     have hat:Hid (lineAt l k=!(l.take k).contains y):=by
      show _=_
      unfold lineAt;rw [hyg.out,decide_eq_true (by omega),Bool.true_and]
     clear hR hl
     generalize (l.take k).contains y=r at *
     cases r
     ·have hp':Hid (∀ j,j<k+1→lineAt l j=true):=by
       intro j hj
       by_cases hjk:j=k
       ·subst hjk;exact hat.out
       ·exact hp.out j (by omega)
      go_wp2_with fail
      (with_reducible refine q.mono ?_)
      rintro e w1 ⟨rfl,rfl⟩
      clear q
      go_wp2_with fail
      exact ⟨⟨k+1,by omega,by go_num,trivial,hp'⟩,by simp [intOf];omega⟩
     ·have hres:Hid (lineB l=false):=Lib.hid (lineB_no hlt hat.out)
      go_wp2_with fail
      (with_reducible refine q.mono ?_)
      rintro e w1 ⟨rfl,rfl⟩
      clear q
      go_wp2_with fail
      go_ret
      exact ⟨ret_bool hres.out.symm,rfl⟩
  ·have hres:Hid (lineB l=true):=Lib.hid (lineB_yes (fun j hj=>hp.out j (by omega)))
   go_wp2_with fail
   go_ret
   exact ⟨ret_bool hres.out.symm,rfl⟩
end Go.Proofs.YtoeobcmmafncmaaGreatDoor

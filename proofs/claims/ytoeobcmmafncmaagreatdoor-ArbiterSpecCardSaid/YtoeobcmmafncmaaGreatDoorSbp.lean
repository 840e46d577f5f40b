/- Cases in which nobody works: plain. -/
import Derived.Test.YtoeobcmmafncmaaGreatDoorSbo
import Derived.Test.YtoeobcmmafncmaaGreatDoorSam
import Derived.Test.YtoeobcmmafncmaaGreatDoorSbi
set_option maxRecDepth 1000000
set_option maxHeartbeats 16000000
namespace Go.Proofs.YtoeobcmmafncmaaGreatDoor
open Go.RowKit
def bareJob (s:Int) (b:List Ltr):Jb:=⟨bareX s b,bareP s b,[],[],[],[],[]⟩
def bareJobs:List Int→List Ltr→List Jb
 | [],_=>[]
 | s::ss,b=>bareJob s b::bareJobs ss (bareX s b)
def bareLast:List Int→List Ltr→List Ltr
 | [],b=>b
 | s::ss,b=>bareLast ss (bareX s b)
theorem bareJobs_length:∀ (ss:List Int) (b:List Ltr),(bareJobs ss b).length=ss.length
 | [],_=>rfl
 | s::ss,b=>by show (bareJobs ss (bareX s b)).length+1=_;rw [bareJobs_length];rfl
theorem bareJobs_at:∀ {ss:List Int} {b:List Ltr} {i:Nat} {s:Int},ss[i]?=some s→(bareJobs ss b)[i]?=some (bareJob s (bareLast (ss.take i) b))
 | [],_,_,_,h=>by simp at h
 | t::ss,b,0,s,h=>by
  simp only [List.getElem?_cons_zero,Option.some.injEq] at h
  subst h;rfl
 | t::ss,b,i+1,s,h=>by
  simp only [List.getElem?_cons_succ] at h
  exact bareJobs_at (b:=bareX t b) h
theorem bareLast_snoc:∀ (ss:List Int) (b:List Ltr) (s:Int),bareLast (ss++[s]) b=bareX s (bareLast ss b)
 | [],_,_=>rfl
 | t::ss,b,s=>bareLast_snoc ss (bareX t b) s
theorem bareLast_chk:∀ {ss:List Int} {b:List Ltr},chkL b=0→chkL (bareLast ss b)=0
 | [],_,h=>h
 | _::ss,_,h=>bareLast_chk (ss:=ss) (chkL_bareX h)
theorem bareLast_length:∀ (ss:List Int) (b:List Ltr),(bareLast ss b).length=b.length
 | [],_=>rfl
 | s::ss,b=>by show (bareLast ss (bareX s b)).length=_;rw [bareLast_length];unfold bareX;simp
def bareCase (ss:List Int) (first:List Ltr) (place:Int) (w:Wd) (r0 r1 r2:Int):Cs:=⟨first,ss.map pubV,bareJobs ss first,place,w,r0,r1,r2,[]⟩
section
variable {ss:List Int} {first:List Ltr} {place:Int} {w:Wd} {r0 r1 r2:Int}
theorem bareCase_job {i:Nat} {s:Int} (h:ss[i]?=some s):(bareCase ss first place w r0 r1 r2).jobAt i=bareJob s (bareLast (ss.take i) first):=by
 unfold Cs.jobAt bareCase
 rw [List.getD_eq_getElem?_getD,bareJobs_at h];rfl
theorem bareCase_in:∀ {i:Nat},i≤ss.length→(bareCase ss first place w r0 r1 r2).inAt i=bareLast (ss.take i) first
 | 0,_=>by rw [List.take_zero];rfl
 | i+1,h=>by
  have hs:ss[i]?=some ss[i]:=List.getElem?_eq_getElem (by omega)
  show nextL ((bareCase ss first place w r0 r1 r2).jobAt i)=_
  rw [bareCase_job hs,List.take_succ_eq_append_getElem (by omega),bareLast_snoc]
  rfl
theorem bareCase_key {i:Nat} {s:Int} (h:ss[i]?=some s):(bareCase ss first place w r0 r1 r2).keyAt i=pubV s:=by
 unfold Cs.keyAt bareCase
 rw [List.getD_eq_getElem?_getD,List.getElem?_map,h];rfl
theorem bareCase_valid (hs:∀ s∈ss,secB s=true):(bareCase ss first place w r0 r1 r2).valid=true:=by
 unfold Cs.valid bareCase
 rw [List.all_eq_true]
 intro k hk
 obtain ⟨s,h1,rfl⟩:=List.mem_map.1 hk
 exact pub_valid (hs s h1)
theorem bareCase_formed (h2:2≤ss.length) (h9:ss.length≤9) (h0:first.length≠0) (hc:chkL first=0) (hp0:0≤place) (hp1:place<first.length):(bareCase ss first place w r0 r1 r2).formed=true:=by
 obtain ⟨c1,c2⟩:=chkL_ok.1 hc
 unfold Cs.formed formedB bareCase
 simp only [Bool.and_eq_true,decide_eq_true_eq,List.length_map,bareJobs_length]
 exact ⟨h2,h9,trivial,by simp,h0,c1,c2,hp0,hp1⟩
theorem bareCase_bare {i:Nat} (hs:∀ s∈ss,secB s=true) (hc:chkL first=0) (hi:i<ss.length):(bareCase ss first place w r0 r1 r2).bareAt i=true∧((bareCase ss first place w r0 r1 r2).jobAt i).emptyB=true:=by
 have hg:ss[i]?=some ss[i]:=List.getElem?_eq_getElem hi
 unfold Cs.bareAt
 rw [bareCase_job hg,bareCase_key hg,bareCase_in (by omega)]
 refine ⟨?_,rfl⟩
 show (!true||checkBareB _ _ _ _)=true
 rw [show (bareJob ss[i] (bareLast (ss.take i) first)).bare=bareX ss[i] (bareLast (ss.take i) first) from rfl,show (bareJob ss[i] (bareLast (ss.take i) first)).proofs=bareP ss[i] (bareLast (ss.take i) first) from rfl,
  bare_ok (hs _ (List.getElem_mem hi)) (bareLast_chk hc)]
 rfl
theorem bareCase_bares (hs:∀ s∈ss,secB s=true) (hc:chkL first=0):(bareCase ss first place w r0 r1 r2).bares=true:=by
 unfold Cs.bares
 rw [List.all_eq_true]
 intro i hi
 have hi':i<ss.length:=by have:=List.mem_range.1 hi;unfold bareCase at this;simpa using this
 exact (bareCase_bare hs hc hi').1
theorem way_empty {c:Cs} : ∀ (f i k:Nat),(∀ j,i≤j→j<i+f→(c.jobAt j).emptyB=true)→c.way f i k=(0,0)
 | 0,_,_,_=>rfl
 | f+1,i,k,h=>by
  show (if (c.jobAt i).emptyB=true then c.way f (i+1) k else _)=_
  rw [if_pos (h i (Nat.le_refl i) (by omega))]
  exact way_empty f (i+1) k (fun j h1 h2=>h j (by omega) (by omega))
theorem bareCase_check (hs:∀ s∈ss,secB s=true) (h2:2≤ss.length) (h9:ss.length≤9) (h0:first.length≠0) (hc:chkL first=0) (hp0:0≤place) (hp1:place<first.length) :
  (bareCase ss first place w r0 r1 r2).check=if (bareCase ss first place w r0 r1 r2).sealed=true then (0,0,0) else (0,1,0):=by
 rw [check_of (bareCase_formed h2 h9 h0 hc hp0 hp1) (bareCase_valid hs) (bareCase_bares hs hc)]
 have hw:(bareCase ss first place w r0 r1 r2).way (bareCase ss first place w r0 r1 r2).keys.length 0 (bareCase ss first place w r0 r1 r2).place.toNat=(0,0) :=
  way_empty _ _ _ (fun j _ hj => (bareCase_bare hs hc (by have : (bareCase ss first place w r0 r1 r2).keys.length = ss.length := by unfold bareCase; simp
                                                          omega)).2)
 rw [hw]
end
theorem pub3:pubV 3=64:=by
 rw [pubV_eq (by decide)]
 unfold powV
 rw [if_pos valid_four]
 decide
theorem pub4:pubV 4=256:=by
 rw [pubV_eq (by decide)]
 unfold powV
 rw [if_pos valid_four]
 decide
def wS:Wd:=⟨5,6,7⟩
def jS:Int:=(restL [64,256]).getD 0 0
theorem keys_ok:∀ k∈[(64:Int),256],validB k=true:=by
 intro k hk
 simp only [List.mem_cons,List.not_mem_nil,or_false] at hk
 rcases hk with rfl | rfl
 ·rw [←pub3];exact pub_valid (by decide)
 ·rw [←pub4];exact pub_valid (by decide)
theorem rest_head_valid {l:List Int} (h:∀ k∈l,validB k=true):validB ((restL l).getD 0 0)=true:=by
 rw [List.getD_eq_getElem?_getD,List.getElem?_eq_getElem (by rw [restL_length];omega)]
 exact restL_valid h _ (List.getElem_mem _)
theorem jS_valid:validB jS=true:=rest_head_valid keys_ok
theorem seal_is {w:Wd} (hw:w.ok) {key:Int} (hk:validB key=true) (r0 r1 r2:Int):sealV key w.x w.y w.z r0 r1 r2=moreL key r0 r1 r2 (seal0 w.x w.y w.z)∧sealE key w.x w.y w.z=0:=by
 have hb:=sealB_ok.2 hw
 unfold sealV sealE
 rw [if_pos hk,if_pos hk,if_pos hb,if_pos hb]
 exact ⟨rfl,rfl⟩
def lS:Ltr:=moreL jS 1 2 3 (seal0 5 6 7)
theorem secs_ok:∀ s∈[(3:Int),4],secB s=true:=by
 intro s hs
 simp only [List.mem_cons,List.not_mem_nil,or_false] at hs
 rcases hs with rfl | rfl <;> decide
def cS (r2:Int):Cs:=bareCase [3,4] [lS] 0 wS 1 2 r2
def dS (j:Jb):Cs:={ cS 3 with jobs:=[bareJob 3 [lS],j] }
def zeroC:Cs:=⟨[],[],[],0,⟨0,0,0⟩,0,0,0,[]⟩
theorem zeroC_check:zeroC.check=(0,0,550):=by
 unfold Cs.check
 rw [if_neg]
 decide
def wT (x:Int):Wd:=⟨x,4,7⟩
theorem wT_ok (x:Int) (h:elemB x=true):(wT x).ok:=fun k=>by
 match k with
 | 0=>exact h
 | 1=>exact (by decide:elemB 4=true)
 | 2=>exact (by decide:elemB 7=true)
theorem jT:jS=16384:=by
 have h0:=restL_at (l:=[(64:Int),256]) (i:=0) (by decide)
 have h1:=restL_at (l:=[(64:Int),256]) (i:=1) (by decide)
 have h2:(restL [(64:Int),256]).getD 2 0=1:=rfl
 have v1:validB 64=true:=keys_ok 64 (by simp)
 have v2:validB 256=true:=keys_ok 256 (by simp)
 rw [h2] at h1
 have e1:([(64:Int),256]).getD 1 0=256:=rfl
 have e0:([(64:Int),256]).getD 0 0=64:=rfl
 rw [e1,mulV_eq v2 valid_one] at h1
 rw [e0,h1,mulV_eq v1 (by rw [show (256*1 % 2147483579:Int)=256 from by decide];exact v2)] at h0
 unfold jS
 rw [h0];decide
theorem keyT:validB 16384=true:=by rw [←jT];exact jS_valid
theorem elem1:elemB 1=true:=by decide
theorem elem2:elemB 2=true:=by decide
def lT:Ltr:=moreL 16384 1 2 3 (seal0 1 4 7)
theorem sealT:sealV 16384 1 4 7 1 2 3=lT∧sealE 16384 1 4 7=0:=by
 have h:=seal_is (wT_ok 1 elem1) keyT 1 2 3
 exact h
theorem lT_good:lT.good=true:=seal_good (w:=wT 1) keyT (wT_ok 1 elem1)
theorem lT_chk:chkL [lT]=0:=chk_one lT_good
def cT (x:Int):Cs:=bareCase [3,4] [lT] 0 (wT x) 1 2 3
theorem cT_rest (x:Int):(cT x).restAt 0=16384:=by
 rw [←jT]
 unfold Cs.restAt cT bareCase jS
 simp only [List.map,pub3,pub4]
theorem cT_sealed (x:Int) (h:elemB x=true):(cT x).sealed=(moreL 16384 1 2 3 (seal0 x 4 7)).eqB lT:=by
 have hs:=seal_is (wT_ok x h) keyT 1 2 3
 have hx:(wT x).x=x:=rfl
 have hy:(wT x).y=4:=rfl
 have hz:(wT x).z=7:=rfl
 rw [hx,hy,hz] at hs
 have hx:(cT x).words.x=x:=rfl
 have hy:(cT x).words.y=4:=rfl
 have hz:(cT x).words.z=7:=rfl
 have h0:(cT x).r0=1:=rfl
 have h1:(cT x).r1=2:=rfl
 have h2:(cT x).r2=3:=rfl
 have hf:(cT x).first.getD (cT x).place.toNat zeroL=lT:=rfl
 unfold Cs.sealed
 rw [cT_rest,hx,hy,hz,h0,h1,h2,hf,hs.1,hs.2]
 simp only [decide_true,Bool.true_and]
theorem cT_check (x:Int):(cT x).check=if (cT x).sealed=true then (0,0,0) else (0,1,0) :=
 bareCase_check secs_ok (by decide) (by decide) (by decide) lT_chk (by decide) (by decide)
theorem cT_right:(cT 1).check=(0,0,0):=by
 have h:(moreL 16384 1 2 3 (seal0 1 4 7)).eqB lT=true:=Ltr.eqB_iff.2 (show _=lT from rfl)
 rw [cT_check,cT_sealed 1 elem1,if_pos h]
theorem cT_other:(cT 2).check=(0,1,0):=by
 rw [cT_check,cT_sealed 2 elem2,if_neg]
 intro h
 have h1:=Ltr.eqB_iff.1 h
 have:=seal_inj (w:=wT 2) (v:=wT 1) keyT (wT_ok 2 elem2) (wT_ok 1 elem1) h1
 have h2:(2:Int)=1:=congrArg Wd.x this
 omega
def dT (j:Jb):Cs:={ cT 1 with jobs:=[bareJob 3 [lT],j] }
theorem dT_formed (j:Jb):(dT j).formed=true:=bareCase_formed (ss:=[3,4]) (first:=[lT]) (place:=0) (w:=wT 1) (r0:=1) (r1:=2) (r2:=3) (by decide) (by decide) (by decide) lT_chk (by decide) (by decide)
theorem dT_valid (j:Jb):(dT j).valid=true:=bareCase_valid (ss:=[3,4]) (first:=[lT]) (place:=0) (w:=wT 1) (r0:=1) (r1:=2) (r2:=3) secs_ok
theorem dT_bare0 (j:Jb):(dT j).bareAt 0=true:=(bareCase_bare (ss:=[3,4]) (first:=[lT]) (place:=0) (w:=wT 1) (r0:=1) (r1:=2) (r2:=3) (i:=0) secs_ok lT_chk (by decide)).1
theorem dT_silent {j:Jb} (hj:j.emptyB=false):(dT j).check=(1,5,0):=by
 have h1:(dT j).bareAt 1=true:=by
  unfold Cs.bareAt
  rw [show (dT j).jobAt 1=j from rfl,hj];rfl
 have hb:(dT j).bares=true:=by
  unfold Cs.bares
  rw [List.all_eq_true]
  intro i hi
  have hi':i<2:=List.mem_range.1 hi
  obtain rfl | rfl:i=0∨i=1:=by omega
  ·exact dT_bare0 j
  ·exact h1
 have hs:(dT j).sealed=true:=by
  show (cT 1).sealed=true
  rw [cT_sealed 1 elem1];exact Ltr.eqB_iff.2 rfl
 have hw:(dT j).way 2 0 0=(1,5):=by
  show (if ((dT j).jobAt 0).emptyB=true then (if ((dT j).jobAt 1).emptyB=true then _ else if (dT j).whyAt 1 0=0 then _ else (((1:Nat):Int),(dT j).whyAt 1 0)) else _)=_
  rw [if_pos (show ((dT j).jobAt 0).emptyB=true from rfl),show (dT j).jobAt 1=j from rfl,if_neg (by rw [hj];simp)]
  have h5:(dT j).whyAt 1 0=5:=Cs.why5 rfl
  rw [h5,if_neg (by omega)];rfl
 rw [check_of (dT_formed j) (dT_valid j) hb,if_pos hs]
 show (((dT j).way 2 0 0).1,((dT j).way 2 0 0).2,(0:Int))=_
 rw [hw]
def caT (c:Cs):Ca:=⟨c,[zeroH,zeroH],0,0,0⟩
theorem klT:2=([(3:Int),4].map pubV).length:=by rw [List.length_map];rfl
theorem jt_clear:(caT (cT 1)).judge [0,1]=(-1,0,0):=by
 have hc:(caT (cT 1)).c.check=(0,0,0):=cT_right
 rw [judge_miss (a:=caT (cT 1)) (l:=[0,1]) (by decide) klT (by rw [hc]) (by rw [hc];decide),if_pos (by rw [hc])]
 intro j hj
 have hl:(caT (cT 1)).lim [0,1]=2:=by unfold Ca.lim;rw [if_pos (by rw [hc])];rfl
 rw [hl] at hj
 have he:((caT (cT 1)).c.jobAt j).emptyB=true:=(bareCase_bare (ss:=[3,4]) (first:=[lT]) (place:=0) (w:=wT 1) (r0:=1) (r1:=2) (r2:=3) (i:=j) secs_ok lT_chk hj).2
 unfold Ca.wrong
 rw [he];rfl
theorem jt_short:(caT (cT 1)).judge [0]=(0,0,560):=judge_bad (fun h=>absurd h.2 (by show ¬(1:Nat)=([3,4].map pubV).length;simp))
theorem jt_twice:(caT (cT 1)).judge [1,1]=(0,0,560):=judge_bad (fun h=>absurd h.1 (by decide))
theorem jt_sender:(caT (cT 2)).judge [0,1]=(-1,1,0):=by
 have hc:(caT (cT 2)).c.check=(0,1,0):=cT_other
 exact judge_send (by decide) klT (by rw [hc]) (by rw [hc])
theorem jt_silent {j:Jb} (hj:j.emptyB=false):(caT (dT j)).judge [0,1]=(1,5,0):=by
 have hc:(caT (dT j)).c.check=(1,5,0):=dT_silent hj
 rw [judge_miss (a:=caT (dT j)) (l:=[0,1]) (by decide) klT (by rw [hc]) (by rw [hc];decide),if_neg (by rw [hc];decide),hc]
 intro i hi
 have hl:(caT (dT j)).lim [0,1]=1:=by unfold Ca.lim;rw [if_neg (by rw [hc];decide),hc];rfl
 rw [hl] at hi
 obtain rfl:i=0:=by omega
 unfold Ca.wrong
 rw [show ((caT (dT j)).c.jobAt 0).emptyB=true from rfl];rfl
theorem jt_zero:(⟨zeroC,[],0,0,0⟩:Ca).judge []=(0,0,550):=by
 have hc:(⟨zeroC,[],0,0,0⟩:Ca).c.check=(0,0,550):=zeroC_check
 rw [judge_err (by decide) (by rfl) (by rw [hc];decide),hc]
end Go.Proofs.YtoeobcmmafncmaaGreatDoor

/- paths.Check: what it says, in plain words; a case in memory. -/
import Derived.Test.YtgkpomdegomgiaaGreatDoorMau
import Derived.Test.YtgkpomdegomgiaaGreatDoorMav
set_option maxRecDepth 1000000
set_option maxHeartbeats 16000000
namespace Go.Proofs.YtgkpomdegomgiaaGreatDoor
open Go.RowKit
structure Cs where
  first:List Ltr
  keys:List Int
  jobs:List Jb
  place:Int
  words:Wd
  r0:Int
  r1:Int
  r2:Int
  steps:List Stp
def zeroJ:Jb:=⟨[],[],[],[],[],[],[]⟩
def zeroS:Stp:=⟨0,⟨0,0,0,0,List.replicate 32 0⟩,⟨0,0,0,0,List.replicate 32 0⟩,-1⟩
def Cs.jobAt (c:Cs) (k:Nat):Jb:=c.jobs.getD k zeroJ
def nextL (j:Jb):List Ltr:=if j.emptyB then j.bare else j.mo
def Cs.inAt (c:Cs):Nat→List Ltr
  | 0=>c.first
  | k+1=>nextL (c.jobAt k)
def Cs.keyAt (c:Cs) (k:Nat):Int:=c.keys.getD k 0
def Cs.restAt (c:Cs) (k:Nat):Int:=(restL c.keys).getD k 0
def Cs.stepAt (c:Cs) (k:Nat):Stp:=c.steps.getD k zeroS
def Cs.bareAt (c:Cs) (i:Nat):Bool:=!(c.jobAt i).emptyB||checkBareB (c.keyAt i) (c.inAt i) (c.jobAt i).bare (c.jobAt i).proofs
def Cs.whyAt (c:Cs) (i k:Nat):Int:=if (c.stepAt i).mid = -1 then 5 else
  if strippedB (c.keyAt i) (c.inAt i) (c.jobAt i) k=true then (if openedB (c.restAt (i+1)) (c.inAt i).length (c.jobAt i) (c.stepAt i) k=true then 0 else 4) else 3
def Cs.way (c:Cs):Nat→Nat→Nat→Int×Int
  | 0,_,_=>(0,0)
  | f+1,i,k=>if (c.jobAt i).emptyB=true then c.way f (i+1) k else if c.whyAt i k=0 then c.way f (i+1) (c.stepAt i).right.at_.toNat else ((i:Int),c.whyAt i k)
def Cs.formed (c:Cs):Bool:=formedB c.keys.length c.jobs.length c.steps.length c.first c.place
def Cs.valid (c:Cs):Bool:=c.keys.all validB
def Cs.bares (c:Cs):Bool:=(List.range c.keys.length).all c.bareAt
def Cs.sealed (c:Cs):Bool:=decide (sealE (c.restAt 0) c.words.x c.words.y c.words.z=0)&&(sealV (c.restAt 0) c.words.x c.words.y c.words.z c.r0 c.r1 c.r2).eqB (c.first.getD c.place.toNat zeroL)
def Cs.check (c:Cs):Int×Int×Int :=
  if c.formed=true then (if c.valid=true then (if c.bares=true then (if c.sealed=true then ((c.way c.keys.length 0 c.place.toNat).1,(c.way c.keys.length 0 c.place.toNat).2,0) else (0,1,0)) else (0,0,550)) else (0,0,550)) else (0,0,550)
def Cs.go (c:Cs) {n:Nat} (σ:Option Nat) (i:Fin n):Option Nat:=σ.bind fun k=>if (c.jobAt i.val).emptyB=true then some k else if c.whyAt i.val k=0 then some (c.stepAt i.val).right.at_.toNat else none
theorem Cs.way_go (c:Cs) {n:Nat} (p0:Nat):∀ {k p:Nat},k≤n→(upto n k).foldl c.go (some p0)=some p→c.way n 0 p0=c.way (n - k) k p
  | 0,p,_,h=>by
    rw [upto_zero] at h
    injection h with h
    rw [h];rfl
  | k+1,p,hk,h=>by
    rw [←upto_succ (show k<n by omega),List.foldl_append,List.foldl_cons,List.foldl_nil] at h
    cases hq:(upto n k).foldl c.go (some p0) with
    | none=>rw [hq] at h;cases h
    | some q =>
      rw [hq] at h
      rw [Cs.way_go c p0 (show k≤n by omega) hq,show n - k=(n - (k+1))+1 by omega]
      change (if (c.jobAt k).emptyB=true then some q else if c.whyAt k q=0 then some (c.stepAt k).right.at_.toNat else none)=some p at h
      show (if (c.jobAt k).emptyB=true then c.way (n - (k+1)) (k+1) q else if c.whyAt k q=0 then c.way (n - (k+1)) (k+1) (c.stepAt k).right.at_.toNat else ((k:Int),c.whyAt k q))=_
      by_cases he:(c.jobAt k).emptyB=true
      · rw [if_pos he] at h ⊢
        injection h with h;rw [h]
      · rw [if_neg he] at h ⊢
        by_cases hw:c.whyAt k q=0
        · rw [if_pos hw] at h ⊢
          injection h with h;rw [h]
        · rw [if_neg hw] at h;cases h
theorem Cs.way_done (c:Cs) {n p0 p:Nat} (h:(upto n n).foldl c.go (some p0)=some p):c.way n 0 p0=(0,0):=by
  rw [c.way_go p0 (Nat.le_refl n) h,Nat.sub_self];rfl
theorem Cs.way_found (c:Cs) {n p0 k p:Nat} (hk:k<n) (h:(upto n k).foldl c.go (some p0)=some p) (he:(c.jobAt k).emptyB=false) (hw:c.whyAt k p≠0):c.way n 0 p0=((k:Int),c.whyAt k p):=by
  rw [c.way_go p0 (Nat.le_of_lt hk) h,show n - k=(n - (k+1))+1 by omega]
  show (if (c.jobAt k).emptyB=true then _ else if c.whyAt k p=0 then _ else ((k:Int),c.whyAt k p))=_
  rw [if_neg (by rw [he];simp),if_neg hw]
def legOf {n:Nat} (pre:List (Fin n)):Nat:=(pre.getLast?.map Fin.val).getD 0
def Cs.atOf (c:Cs) {n:Nat} (p0:Nat) (pre:List (Fin n)):Nat:=(pre.dropLast.foldl c.go (some p0)).getD 0
theorem legOf_snoc {n:Nat} (pre:List (Fin n)) (x:Fin n):legOf (pre++[x])=x.val:=by simp [legOf]
theorem Cs.atOf_snoc (c:Cs) {n:Nat} (p0:Nat) (pre:List (Fin n)) (x:Fin n) {p:Nat} (h:pre.foldl c.go (some p0)=some p):c.atOf p0 (pre++[x])=p:=by
  unfold Cs.atOf;rw [List.dropLast_concat,h];rfl
theorem Cs.go_bare (c:Cs) {n:Nat} {p0 p:Nat} {pre:List (Fin n)} {x:Fin n} (h:pre.foldl c.go (some p0)=some p) (he:(c.jobAt x.val).emptyB=true):(pre++[x]).foldl c.go (some p0)=some p:=by
  rw [List.foldl_append,h]
  show (if (c.jobAt x.val).emptyB=true then some p else _)=_
  rw [if_pos he]
theorem Cs.go_on (c:Cs) {n:Nat} {p0 p:Nat} {pre:List (Fin n)} {x:Fin n} (h:pre.foldl c.go (some p0)=some p) (he:(c.jobAt x.val).emptyB=false) (hw:c.whyAt x.val p=0):(pre++[x]).foldl c.go (some p0)=some (c.stepAt x.val).right.at_.toNat:=by
  rw [List.foldl_append,h]
  show (if (c.jobAt x.val).emptyB=true then some p else if c.whyAt x.val p=0 then some (c.stepAt x.val).right.at_.toNat else none)=_
  rw [if_neg (by rw [he];simp),if_pos hw]
theorem Stp.cl_length {s:Stp} (h:s.ok):s.cl.length=74:=by
  unfold Stp.cl
  rw [List.length_append,List.length_append,List.length_append,Opn.cl_length h.2.1,Opn.cl_length h.2.2.1];rfl
theorem Opn.one (o:Opn):∀ v∈o.cl,v.oneCell'=true:=by
  intro v hv
  unfold Opn.cl at hv
  rcases List.mem_append.1 hv with hv | hv
  · simp only [List.mem_cons,List.not_mem_nil,or_false] at hv
    rcases hv with rfl | rfl | rfl | rfl <;> rfl
  · exact byts_oneCell v hv
theorem Stp.one (s:Stp):∀ v∈s.cl,v.oneCell'=true:=by
  intro v hv
  unfold Stp.cl at hv
  rcases List.mem_append.1 hv with hv | hv
  · simp only [List.mem_cons,List.not_mem_nil,or_false] at hv
    subst hv;rfl
  · rcases List.mem_append.1 hv with hv | hv
    · exact s.left.one v hv
    · rcases List.mem_append.1 hv with hv | hv
      · exact s.right.one v hv
      · simp only [List.mem_cons,List.not_mem_nil,or_false] at hv
        subst hv;rfl
theorem zeroS_ok:zeroS.ok:=by
  have h0:inI 0:=⟨by omega,by omega⟩
  have ho:(⟨0,0,0,0,List.replicate 32 0⟩:Opn).ok:=⟨h0,h0,h0,h0,by simp,fun x hx=>by have:=List.eq_of_mem_replicate hx;omega⟩
  exact ⟨h0,ho,ho,⟨by show (-9223372036854775808:Int) ≤ -1;omega,by show (-1:Int)≤9223372036854775807;omega⟩⟩
theorem Cs.why5 {c:Cs} {i k:Nat} (h:(c.stepAt i).mid = -1):c.whyAt i k=5:=by unfold Cs.whyAt;rw [if_pos h]
theorem Cs.why3 {c:Cs} {i k:Nat} (h:(c.stepAt i).mid ≠ -1) (hs:strippedB (c.keyAt i) (c.inAt i) (c.jobAt i) k=false):c.whyAt i k=3:=by unfold Cs.whyAt;rw [if_neg h,if_neg (by rw [hs];simp)]
theorem Cs.why4 {c:Cs} {i k:Nat} (h:(c.stepAt i).mid ≠ -1) (hs:strippedB (c.keyAt i) (c.inAt i) (c.jobAt i) k=true) (ho:openedB (c.restAt (i+1)) (c.inAt i).length (c.jobAt i) (c.stepAt i) k=false):c.whyAt i k=4:=by
  unfold Cs.whyAt;rw [if_neg h,if_pos hs,if_neg (by rw [ho];simp)]
theorem Cs.why0 {c:Cs} {i k:Nat} (h:(c.stepAt i).mid ≠ -1) (hs:strippedB (c.keyAt i) (c.inAt i) (c.jobAt i) k=true) (ho:openedB (c.restAt (i+1)) (c.inAt i).length (c.jobAt i) (c.stepAt i) k=true):c.whyAt i k=0:=by
  unfold Cs.whyAt;rw [if_neg h,if_pos hs,if_pos ho]
theorem stripped_lt {key:Int} {inn:List Ltr} {j:Jb} {k:Nat} (h:strippedB key inn j k=true):k<inn.length∧j.bare.length=inn.length:=by
  unfold strippedB at h
  simp only [Bool.and_eq_true,decide_eq_true_eq] at h
  exact ⟨h.1,h.2.1⟩
theorem opened_lt {rest:Int} {n:Nat} {j:Jb} {s:Stp} {k:Nat} (h:openedB rest n j s k=true):0≤s.right.at_∧s.right.at_<n:=by
  unfold openedB at h
  simp only [Bool.and_eq_true,decide_eq_true_eq] at h
  exact ⟨h.2.2.2.2.2.2.1,h.2.2.2.2.2.2.2.1⟩
structure CaseAt (w:World) (B:Nat) (cs:Array Value) (jcs:List (Array Value)) (c:Cs):Prop where
  size:cs.size=15
  one:∀ v∈cs.toList,v.oneCell'=true
  first:LsAt w B cs[3]? c.first
  keys:∃ A ck,cs[4]?=some (.slice A c.keys.length ck)∧Rd w B 1 A c.keys.length (ints c.keys)
  jobs:∃ A cj,cs[5]?=some (.slice A c.jobs.length cj)∧Rd w B 49 A c.jobs.length (jcs.flatMap Array.toList)
  jlen:jcs.length=c.jobs.length
  job:∀ k jc,jcs[k]?=some jc→jc.size=49∧(∀ v∈jc.toList,v.oneCell'=true)∧JobAt w B (fun i=>jc[i]?) (c.jobAt k)∧(c.jobAt k).small
  place:cs[6]?=some (.int .i64 c.place)
  w0:cs[7]?=some (.int .i64 c.words.x)
  w1:cs[8]?=some (.int .i64 c.words.y)
  w2:cs[9]?=some (.int .i64 c.words.z)
  r0:cs[10]?=some (.int .i64 c.r0)
  r1:cs[11]?=some (.int .i64 c.r1)
  r2:cs[12]?=some (.int .i64 c.r2)
  steps:∃ A ct,cs[13]?=some (.slice A c.steps.length ct)∧Rd w B 74 A c.steps.length (c.steps.flatMap Stp.cl)
  stepOk:∀ s∈c.steps,s.ok
section
variable {w w':World} {B:Nat} {cs:Array Value} {jcs:List (Array Value)} {c:Cs}
theorem CaseAt.below (h:CaseAt w B cs jcs c) (b:Below B w w'):CaseAt w' B cs jcs c:=by
  obtain ⟨A,ck,k1,k2⟩:=h.keys
  obtain ⟨A',cj,j1,j2⟩:=h.jobs
  obtain ⟨A'',ct,s1,s2⟩:=h.steps
  exact ⟨h.size,h.one,h.first.below b,⟨A,ck,k1,k2.below b⟩,⟨A',cj,j1,j2.below b⟩,h.jlen,fun k jc hk=>by obtain ⟨a1,a2,a3,a4⟩:=h.job k jc hk;exact ⟨a1,a2,a3.below b,a4⟩,h.place,h.w0,h.w1,h.w2,h.r0,h.r1,h.r2,⟨A'',ct,s1,s2.below b⟩,h.stepOk⟩
theorem CaseAt.more {B':Nat} (h:CaseAt w B cs jcs c) (b:B≤B'):CaseAt w B' cs jcs c:=by
  obtain ⟨A,ck,k1,k2⟩:=h.keys
  obtain ⟨A',cj,j1,j2⟩:=h.jobs
  obtain ⟨A'',ct,s1,s2⟩:=h.steps
  exact ⟨h.size,h.one,h.first.more b,⟨A,ck,k1,k2.more b⟩,⟨A',cj,j1,j2.more b⟩,h.jlen,fun k jc hk=>by obtain ⟨a1,a2,a3,a4⟩:=h.job k jc hk;exact ⟨a1,a2,a3.more b,a4⟩,h.place,h.w0,h.w1,h.w2,h.r0,h.r1,h.r2,⟨A'',ct,s1,s2.more b⟩,h.stepOk⟩
def Cs.em (c:Cs) (k:Nat):Bool:=(c.jobAt k).emptyB
theorem CaseAt.jobC (h:CaseAt w B cs jcs c):∀ k jc,jcs[k]?=some jc→JobC jc (c.em k):=fun k jc hk=>by
  obtain ⟨a1,a2,a3,a4⟩:=h.job k jc hk
  obtain ⟨A,n,h0,_⟩:=a3.h0
  exact ⟨a1,a2,⟨A,_,n,h0⟩,a3.lens3 a4⟩
theorem CaseAt.shown (h:CaseAt w B cs jcs c) {v0:Value} (hv:cs[3]?=some v0) {k:Nat} (hk:k<c.jobs.length) :
    ShnAt w B (shc v0 c.keys (restL c.keys) jcs c.em k) (c.inAt k) (c.keyAt k) (c.restAt (k+1)) (c.jobAt k):=by
  obtain ⟨jc,hjc⟩:∃ jc,jcs[k]?=some jc:=⟨_,List.getElem?_eq_getElem (by rw [h.jlen];exact hk)⟩
  obtain ⟨a1,a2,a3,a4⟩:=h.job k jc hjc
  have hg:jcs.getD k #[]=jc:=by rw [List.getD_eq_getElem?_getD,hjc];rfl
  have e:∀ i,(shc v0 c.keys (restL c.keys) jcs c.em k)[3+i]?=jc[i]?:=fun i=>by
    unfold shc
    rw [hg,Array.getElem?_append_right (by simp)];simp
  refine ⟨?_,by unfold shc;rw [Array.getElem?_append_left (by simp)];rfl,by unfold shc;rw [Array.getElem?_append_left (by simp)];rfl,?_⟩
  · have e0:(shc v0 c.keys (restL c.keys) jcs c.em k)[0]?=some (inV v0 jcs c.em k):=by
      unfold shc;rw [Array.getElem?_append_left (by simp)];rfl
    rw [e0]
    cases k with
    | zero=>rw [←show cs[3]?=some (inV v0 jcs c.em 0) from hv];exact h.first
    | succ k =>
      obtain ⟨jd,hjd⟩:∃ jd,jcs[k]?=some jd:=⟨_,List.getElem?_eq_getElem (by rw [h.jlen];omega)⟩
      obtain ⟨b1,b2,b3,b4⟩:=h.job k jd hjd
      have hd:jcs.getD k #[]=jd:=by rw [List.getD_eq_getElem?_getD,hjd];rfl
      show LsAt w B (some (((jcs.getD k #[])[if c.em k=true then 0 else 4]?).getD undef)) (nextL (c.jobAt k))
      rw [hd]
      unfold nextL
      cases he:(c.jobAt k).emptyB
      · have:c.em k=false:=he
        rw [this,if_neg (by simp),if_neg (by simp)]
        obtain ⟨A,n,q⟩:=b3.h4
        have q0:jd[4]?=_:=q.1
        rw [q0]
        exact ⟨A,n,rfl,q.2⟩
      · have:c.em k=true:=he
        rw [this,if_pos rfl,if_pos rfl]
        obtain ⟨A,n,q⟩:=b3.h0
        have q0:jd[0]?=_:=q.1
        rw [q0]
        exact ⟨A,n,rfl,q.2⟩
  · rw [show (fun i=>(shc v0 c.keys (restL c.keys) jcs c.em k)[3+i]?)=fun i=>jc[i]? from funext e]
    exact a3
end
theorem CaseAt.shown_row {w:World} {B:Nat} {cs:Array Value} {jcs:List (Array Value)} {c:Cs} (h:CaseAt w B cs jcs c) (A0:Option Addr) (n0 c0:Nat) {k:Nat} (hk:k<c.jobs.length) :
    (shc (.slice A0 n0 c0) c.keys (restL c.keys) jcs c.em k).size=52∧(shc (.slice A0 n0 c0) c.keys (restL c.keys) jcs c.em k).all (·.oneCell')=true:=by
  obtain ⟨jc,hjc⟩:∃ jc,jcs[k]?=some jc:=⟨_,List.getElem?_eq_getElem (by rw [h.jlen];exact hk)⟩
  obtain ⟨a1,a2,-,-⟩:=h.job k jc hjc
  have hg:jcs.getD k #[]=jc:=by rw [List.getD_eq_getElem?_getD,hjc];rfl
  obtain ⟨A,n,cc,hi⟩:=inV_slice (A0:=A0) (n0:=n0) (c0:=c0) h.jobC (k:=k) (by rw [h.jlen];omega)
  unfold shc
  rw [hg,hi]
  refine ⟨by simp [a1],?_⟩
  have hX:∀ v∈((#[.slice A n cc,.int .i64 (c.keys.getD k 0),.int .i64 ((restL c.keys).getD (k+1) 0)]:Array Value)++jc).toList,v.oneCell'=true:=by
    intro v hv
    rw [Array.toList_append] at hv
    rcases List.mem_append.1 hv with hv | hv
    · simp only [List.mem_cons,List.not_mem_nil,or_false] at hv
      rcases hv with rfl | rfl | rfl <;> rfl
    · exact a2 v hv
  have:=all_oneCell_toArray hX
  rwa [Array.toArray_toList] at this
theorem inAt_small {w:World} {B:Nat} {cs:Array Value} {jcs:List (Array Value)} {c:Cs} (h:CaseAt w B cs jcs c) (hf:c.first.length≤64) {k:Nat} (hk:k≤c.jobs.length):(c.inAt k).length≤1152921504606846976:=by
  cases k with
  | zero=>show c.first.length≤_;omega
  | succ k =>
    obtain ⟨jd,hjd⟩:∃ jd,jcs[k]?=some jd:=⟨_,List.getElem?_eq_getElem (by rw [h.jlen];omega)⟩
    obtain ⟨b1,b2,b3,b4⟩:=h.job k jd hjd
    show (nextL _).length≤_
    unfold nextL
    split
    · exact b4.1
    · exact b4.2.2.2
theorem way_leg {c:Cs} : ∀ (f i k:Nat),(c.way f i k).2=0∨∃ l:Nat,i≤l∧l<i+f∧(c.way f i k).1=l
  | 0,_,_ => .inl rfl
  | f+1,i,k=>by
    have hu:c.way (f+1) i k=(if (c.jobAt i).emptyB=true then c.way f (i+1) k else if c.whyAt i k=0 then c.way f (i+1) (c.stepAt i).right.at_.toNat else ((i:Int),c.whyAt i k)):=rfl
    rw [hu]
    split
    · rcases way_leg (c:=c) f (i+1) k with h | ⟨l,h1,h2,h3⟩
      · exact .inl h
      · exact .inr ⟨l,by omega,by omega,h3⟩
    · split
      · rcases way_leg (c:=c) f (i+1) (c.stepAt i).right.at_.toNat with h | ⟨l,h1,h2,h3⟩
        · exact .inl h
        · exact .inr ⟨l,by omega,by omega,h3⟩
      · exact .inr ⟨i,Nat.le_refl i,by omega,rfl⟩
theorem check_ok {c:Cs} (h:c.check.2.2=0):c.formed=true∧c.valid=true∧c.bares=true:=by
  unfold Cs.check at h
  split at h
  · rename_i h1
    split at h
    · rename_i h2
      split at h
      · rename_i h3
        exact ⟨h1,h2,h3⟩
      · exact absurd h (by show ¬(550:Int)=0;omega)
    · exact absurd h (by show ¬(550:Int)=0;omega)
  · exact absurd h (by show ¬(550:Int)=0;omega)
theorem check_of {c:Cs} (h1:c.formed=true) (h2:c.valid=true) (h3:c.bares=true) :
    c.check=if c.sealed=true then ((c.way c.keys.length 0 c.place.toNat).1,(c.way c.keys.length 0 c.place.toNat).2,0) else (0,1,0):=by
  unfold Cs.check;rw [if_pos h1,if_pos h2,if_pos h3]
def Cs.with (c:Cs) (l:Nat) (j:Jb):Cs:={ c with jobs:=c.jobs.mapIdx fun i x=>if i≤l then x else j }
theorem check_leg {c:Cs} (h:c.check.2.2=0) (hw:c.check.2.1≠0):∃ l:Nat,c.check.1=l∧l<c.jobs.length:=by
  obtain ⟨h1,h2,h3⟩:=check_ok h
  have hh:=h1
  unfold Cs.formed formedB at hh
  simp only [Bool.and_eq_true,decide_eq_true_eq] at hh
  rw [check_of h1 h2 h3] at hw ⊢
  by_cases hs:c.sealed=true
  · rw [if_pos hs] at hw ⊢
    rcases way_leg (c:=c) c.keys.length 0 c.place.toNat with h | ⟨l,_,h5,h6⟩
    · exact absurd h hw
    · exact ⟨l,h6,by have:=hh.2.2.1;omega⟩
  · rw [if_neg hs]
    exact ⟨0,rfl,by have:=hh.2.2.1;have:=hh.1;omega⟩
def Cs.other (c:Cs) (i:Nat) (x:Ltr):Cs:={ c with first:=c.first.set i x }
end Go.Proofs.YtgkpomdegomgiaaGreatDoor

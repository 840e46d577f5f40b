/- Letters under a key that remains: sealed, stripped, sealed again, read. Plain algebra. -/
import Derived.Test.YtgkpomdegomgiaaGreatDoorMam
import Derived.Test.YtgkpomdegomgiaaGreatDoorMat
set_option maxRecDepth 1000000
set_option maxHeartbeats 16000000
namespace Go.Proofs.YtgkpomdegomgiaaGreatDoor
open Go.RowKit
theorem neg_valid {n:Int} (h1:1≤n) (h2:n<2147483579) (h:¬validB n=true):validB (2147483579 - n)=true:=by
  obtain ⟨m,rfl⟩:=Int.eq_ofNat_of_zero_le (show 0≤n by omega)
  have hm0:0<m:=by omega
  have hm1:m<Pn:=by show m<2147483579;omega
  have hne:powP m Qn≠1:=fun e=>h (vN_to ⟨hm0,hm1,e⟩)
  have hc:=Pn_prime hm0 hm1
  have hp:∀ a,0<a→a<2*Qn+1→Nat.Coprime (2*Qn+1) a:=fun a h2 h3=>Pn_prime h2 h3
  have hg:=gauss_pow (h:=Qn) (a:=m) (by decide) hp hc
  have hm:powP m Qn=2147483578:=by
    unfold powP at hne ⊢
    rw [Pn_eq] at hne ⊢
    rw [hg] at hne ⊢
    split at hne
    · exact absurd rfl hne
    · rename_i hh;rw [if_neg hh];rfl
  have hmo:powP 2147483578 Qn=2147483578:=by rw [powP_fast (by decide)];decide +kernel
  have e:(m*2147483578) % Pn=Pn - m:=by
    have:m*2147483578=(Pn - m)+Pn * (m - 1):=by
      show m*2147483578=(2147483579 - m)+2147483579 * (m - 1)
      have:m<2147483579:=hm1
      omega
    rw [this,Nat.add_mul_mod_self_left,Nat.mod_eq_of_lt (by omega)]
  have ht:=powP_times m 2147483578 Qn
  rw [e,hm,hmo] at ht
  have hv:vN (Pn - m):=⟨by omega,by omega,ht.trans (by decide)⟩
  have:=vN_to hv
  have hcast:(((Pn - m:Nat)):Int)=2147483579 - (m:Int):=by
    have:m<2147483579:=hm1
    show ((2147483579 - m:Nat):Int)=_
    omega
  rw [hcast] at this
  exact this
theorem elem_ok {n:Int} (h:elemB n=true):validB (elemV n)=true∧numV (elemV n)=n:=by
  have hr:1≤n∧n≤1073741789:=by
    unfold elemB elemE at h
    split at h
    · assumption
    · simp at h
  unfold elemV
  rw [if_pos hr]
  by_cases hv:validB n=true
  · rw [if_pos hv]
    refine ⟨hv,?_⟩
    unfold numV
    rw [if_pos hv,if_pos (by omega)]
  · rw [if_neg hv]
    have hv':=neg_valid hr.1 (by omega) hv
    refine ⟨hv',?_⟩
    unfold numV
    rw [if_pos hv',if_neg (by omega)]
    omega
def Enc (R:Int) (e:Fin 3→Int) (x:Ltr):Prop:=∃ r:Fin 3→Int,∀ k,x.aAt k=powV 4 (r k)∧x.bAt k=mp (e k) (powV R (r k))
def Wd.at_ (w:Wd) (k:Fin 3):Int:=match k with | 0=>w.x | 1=>w.y | 2=>w.z
def Wd.el (w:Wd) (k:Fin 3):Int:=elemV (w.at_ k)
def rAt (r0 r1 r2:Int) (k:Fin 3):Int:=match k with | 0=>r0 | 1=>r1 | 2=>r2
theorem tl_mp (a b:Int):timesL [a,b]=mp a b:=timesL_two a b
theorem moreL_at (key r0 r1 r2:Int) (x:Ltr) (k:Fin 3):(moreL key r0 r1 r2 x).aAt k=mp (x.aAt k) (powV 4 (rAt r0 r1 r2 k))∧(moreL key r0 r1 r2 x).bAt k=mp (x.bAt k) (powV key (rAt r0 r1 r2 k)):=by
  match k with
  | 0=>exact ⟨tl_mp _ _,tl_mp _ _⟩
  | 1=>exact ⟨tl_mp _ _,tl_mp _ _⟩
  | 2=>exact ⟨tl_mp _ _,tl_mp _ _⟩
theorem stripL_at (n:Int) (x:Ltr) (k:Fin 3):(stripL n x).aAt k=x.aAt k∧(stripL n x).bAt k=mp (x.bAt k) (powV (x.aAt k) (-n)):=by
  match k with
  | 0=>exact ⟨rfl,tl_mp _ _⟩
  | 1=>exact ⟨rfl,tl_mp _ _⟩
  | 2=>exact ⟨rfl,tl_mp _ _⟩
theorem good_of_at {x:Ltr} (h:∀ k,validB (x.aAt k)=true∧validB (x.bAt k)=true):x.good=true :=
  Ltr.good_of _ (fun k=>by rw [goodAt_eq,(h k).1,(h k).2];rfl)
theorem strip_good {n:Int} {x:Ltr} (h:x.good=true):(stripL n x).good=true:=good_of_at (fun k=>by
  obtain ⟨ha,hb⟩:=good_at h k
  rw [(stripL_at n x k).1,(stripL_at n x k).2]
  exact ⟨ha,mp_valid hb (valid_pow ha _)⟩)
theorem more_good {key r0 r1 r2:Int} {x:Ltr} (hk:validB key=true) (h:x.good=true):(moreL key r0 r1 r2 x).good=true:=good_of_at (fun k=>by
  obtain ⟨ha,hb⟩:=good_at h k
  rw [(moreL_at key r0 r1 r2 x k).1,(moreL_at key r0 r1 r2 x k).2]
  exact ⟨mp_valid ha (valid_pow valid_four _),mp_valid hb (valid_pow hk _)⟩)
theorem seal0_at (w:Wd) (k:Fin 3):(seal0 w.x w.y w.z).aAt k=1∧(seal0 w.x w.y w.z).bAt k=w.el k:=by
  match k with
  | 0=>exact ⟨rfl,rfl⟩
  | 1=>exact ⟨rfl,rfl⟩
  | 2=>exact ⟨rfl,rfl⟩
def Wd.ok (w:Wd):Prop:=∀ k,elemB (w.at_ k)=true
theorem sealB_ok {w:Wd} : sealB w.x w.y w.z=true↔w.ok:=by
  unfold sealB Wd.ok
  simp only [Bool.and_eq_true]
  constructor
  · rintro ⟨⟨h0,h1⟩,h2⟩ k
    match k with
    | 0=>exact h0
    | 1=>exact h1
    | 2=>exact h2
  · intro h;exact ⟨⟨h 0,h 1⟩,h 2⟩
theorem seal_good {key r0 r1 r2:Int} {w:Wd} (hk:validB key=true) (hw:w.ok):(moreL key r0 r1 r2 (seal0 w.x w.y w.z)).good=true :=
  more_good hk (good_of_at (fun k=>by rw [(seal0_at w k).1,(seal0_at w k).2];exact ⟨valid_one,(elem_ok (hw k)).1⟩))
theorem enc_seal {key r0 r1 r2:Int} (w:Wd):Enc key w.el (moreL key r0 r1 r2 (seal0 w.x w.y w.z)):=⟨rAt r0 r1 r2,fun k=>by
  rw [(moreL_at key r0 r1 r2 _ k).1,(moreL_at key r0 r1 r2 _ k).2,(seal0_at w k).1,(seal0_at w k).2]
  exact ⟨mp_one (valid_pow valid_four _),rfl⟩⟩
theorem enc_more {key r0 r1 r2:Int} {e:Fin 3→Int} {x:Ltr} (hk:validB key=true) (h:Enc key e x):Enc key e (moreL key r0 r1 r2 x):=by
  obtain ⟨r,hr⟩:=h
  refine ⟨fun k=>r k+rAt r0 r1 r2 k,fun k=>?_⟩
  rw [(moreL_at key r0 r1 r2 x k).1,(moreL_at key r0 r1 r2 x k).2,(hr k).1,(hr k).2,pow_add' valid_four,pow_add' hk]
  exact ⟨rfl,by ac_rfl⟩
theorem enc_strip {s R:Int} {e:Fin 3→Int} {x:Ltr} (hR:validB R=true) (he:∀ k,validB (e k)=true) (h:Enc (mp (powV 4 s) R) e x):Enc R e (stripL s x):=by
  obtain ⟨r,hr⟩:=h
  refine ⟨r,fun k=>?_⟩
  rw [(stripL_at s x k).1,(stripL_at s x k).2,(hr k).1,(hr k).2,pow_mp (valid_pow valid_four s) hR,powV_mul valid_four,powV_mul valid_four]
  refine ⟨rfl,?_⟩
  have e1:r k * -s = -(s*r k):=by rw [Int.mul_neg,Int.mul_comm]
  rw [e1]
  have h1:=pow_inv valid_four (s*r k)
  have:mp (mp (e k) (mp (powV 4 (s*r k)) (powV R (r k)))) (powV 4 (-(s*r k)))=mp (mp (powV 4 (s*r k)) (powV 4 (-(s*r k)))) (mp (e k) (powV R (r k))):=by ac_rfl
  rw [this,h1,mp_one (mp_valid (he k) (valid_pow hR _))]
theorem enc_read {w:Wd} {x:Ltr} (hw:w.ok) (hx:x.good=true) (h:Enc 1 w.el x):readV x=w:=by
  obtain ⟨r,hr⟩:=h
  have hb:∀ k,x.bAt k=w.el k:=fun k=>by
    rw [(hr k).2]
    have:powV 1 (r k)=1:=by
      unfold powV
      rw [if_pos valid_one]
      show ((powP 1 (expN (r k)):Nat):Int)=1
      rw [one_powP];rfl
    rw [this]
    exact mp_one' (elem_ok (hw k)).1
  have hn:∀ k,numV (x.bAt k)=w.at_ k:=fun k=>by rw [hb k];exact (elem_ok (hw k)).2
  unfold readV
  rw [if_pos hx]
  have h0:=hn 0
  have h1:=hn 1
  have h2:=hn 2
  cases w
  show (⟨numV x.b0,numV x.b1,numV x.b2⟩:Wd)=_
  rw [show numV x.b0=_ from h0,show numV x.b1=_ from h1,show numV x.b2=_ from h2]
  rfl
theorem seal_inj {key r0 r1 r2:Int} {w v:Wd} (hk:validB key=true) (hw:w.ok) (hv:v.ok) (h:moreL key r0 r1 r2 (seal0 w.x w.y w.z)=moreL key r0 r1 r2 (seal0 v.x v.y v.z)):w=v:=by
  have hb:∀ k,w.at_ k=v.at_ k:=fun k=>by
    have h1:=(moreL_at key r0 r1 r2 (seal0 w.x w.y w.z) k).2
    have h2:=(moreL_at key r0 r1 r2 (seal0 v.x v.y v.z) k).2
    rw [h,h2,(seal0_at w k).2,(seal0_at v k).2] at h1
    have:=cancel_mul (valid_pow hk _) (elem_ok (hv k)).1 (elem_ok (hw k)).1 h1
    rw [←(elem_ok (hw k)).2,←(elem_ok (hv k)).2]
    exact congrArg numV this.symm
  have h0:=hb 0
  have h1:=hb 1
  have h2:=hb 2
  cases w;cases v
  simp only [Wd.at_] at h0 h1 h2
  subst h0;subst h1;subst h2;rfl
theorem restL_at:∀ {l:List Int} {i:Nat},i<l.length→(restL l).getD i 0=mulV (l.getD i 0) ((restL l).getD (i+1) 0)
  | [],_,h=>by simp at h
  | k::l,0,_=>by
    obtain ⟨r,h1,h2⟩:=restL_head (l:=l)
    show mulV k ((restL l).headD 1)=mulV k ((restL l).getD 0 0)
    rw [List.getD_eq_getElem?_getD,h1,←h2];rfl
  | k::l,i+1,h=>restL_at (l:=l) (i:=i) (by simpa using h)
theorem restL_last:∀ (l:List Int),(restL l).getD l.length 0=1
  | []=>rfl
  | _::l=>restL_last l
theorem rest_valid {c:Cs} (h:c.valid=true) {i:Nat} (hi:i≤c.keys.length):validB (c.restAt i)=true:=by
  unfold Cs.restAt
  rw [List.getD_eq_getElem?_getD,List.getElem?_eq_getElem (by rw [restL_length];omega)]
  exact restL_valid (fun k hk=>List.all_eq_true.1 h k hk) _ (List.getElem_mem _)
theorem bareAll_at {key:Int} : ∀ {l m q:List Ltr} {k:Nat} {x y p:Ltr},bareAll key l m q=true→l[k]?=some x→m[k]?=some y→q[k]?=some p→bareOne key x y p=true
  | X::l,Y::m,P::q,0,x,y,p,h,hx,hy,hp=>by
    simp only [List.getElem?_cons_zero,Option.some.injEq] at hx hy hp
    subst hx;subst hy;subst hp
    unfold bareAll at h
    simp only [Bool.and_eq_true] at h
    exact h.1
  | X::l,Y::m,P::q,k+1,x,y,p,h,hx,hy,hp=>by
    simp only [List.getElem?_cons_succ] at hx hy hp
    unfold bareAll at h
    simp only [Bool.and_eq_true] at h
    exact bareAll_at h.2 hx hy hp
  | [],_,_,k,_,_,_,_,hx,_,_=>by simp at hx
  | _::_,[],_,k,_,_,_,_,_,hy,_=>by simp at hy
  | _::_,_::_,[],k,_,_,_,_,_,_,hp=>by simp at hp
theorem checkBare_len {key:Int} {l m q:List Ltr} (h:checkBareB key l m q=true):validB key=true∧l.length=m.length∧l.length=q.length∧chkL l=0∧chkL m=0∧bareAll key l m q=true:=by
  unfold checkBareB at h
  simp only [Bool.and_eq_true,decide_eq_true_eq] at h
  exact h
theorem chk_one {x:Ltr} (h:x.good=true):chkL [x]=0:=chkL_ok.2 ⟨by simp,by simp [h]⟩
theorem checkBare_one {key:Int} {l m q:List Ltr} {k:Nat} {x y p:Ltr} (h:checkBareB key l m q=true) (hx:l[k]?=some x) (hy:m[k]?=some y) (hp:q[k]?=some p):checkBareB key [x] [y] [p]=true:=by
  obtain ⟨h1,h2,h3,h4,h5,h6⟩:=checkBare_len h
  have gx:=List.all_eq_true.1 (chkL_ok.1 h4).2 x (List.mem_of_getElem? hx)
  have gy:=List.all_eq_true.1 (chkL_ok.1 h5).2 y (List.mem_of_getElem? hy)
  have ho:=bareAll_at h6 hx hy hp
  unfold checkBareB
  rw [h1,decide_eq_true (show [x].length=[y].length from rfl),decide_eq_true (show [x].length=[p].length from rfl),decide_eq_true (chk_one gx),decide_eq_true (chk_one gy)]
  unfold bareAll
  rw [ho]
  unfold bareAll
  rfl
theorem leads_ok {key:Int} {a b:Ltr} {r0 r1 r2:Int} (h:leadsB key a b r0 r1 r2=true):validB key=true∧a.good=true∧b=moreL key r0 r1 r2 a:=by
  unfold leadsB at h
  simp only [Bool.and_eq_true,decide_eq_true_eq] at h
  obtain ⟨h1,h2⟩:=h
  have h3:=Ltr.eqB_iff.1 h2
  unfold againE at h1
  split at h1
  · rename_i hk
    split at h1
    · rename_i ha
      refine ⟨hk,ha,?_⟩
      rw [←h3];unfold againV;rw [if_pos hk,if_pos ha]
    · omega
  · omega
structure Cs.At (c:Cs) (e:Fin 3→Int) (p0 i k:Nat) (x:Ltr):Prop where
  way:(upto c.keys.length i).foldl c.go (some p0)=some k
  here:(c.inAt i)[k]?=some x
  good:x.good=true
  enc:Enc (c.restAt i) e x
theorem at_start {c:Cs} (hp0:0≤c.place) (hp1:c.place<c.first.length) (hs:c.sealed=true):c.At c.words.el c.place.toNat 0 c.place.toNat (c.first.getD c.place.toNat zeroL)∧c.words.ok:=by
  unfold Cs.sealed at hs
  simp only [Bool.and_eq_true,decide_eq_true_eq] at hs
  obtain ⟨h1,h2⟩:=hs
  have h3:=Ltr.eqB_iff.1 h2
  unfold sealE at h1
  split at h1
  · rename_i hk
    split at h1
    · rename_i hw
      have hw':=sealB_ok.1 hw
      unfold sealV at h3
      rw [if_pos hk,if_pos hw] at h3
      refine ⟨⟨by rw [upto_zero];rfl,?_,?_,?_⟩,hw'⟩
      · show c.first[c.place.toNat]?=_
        rw [List.getD_eq_getElem?_getD,List.getElem?_eq_getElem (by omega)];rfl
      · rw [←h3];exact seal_good hk hw'
      · rw [←h3];exact enc_seal c.words
    · omega
  · omega
theorem strip_is {s:Int} {x:Ltr} (hs:secB s=true) (hx:x.good=true):stripV s x=stripL s x∧stripE s x=0:=by
  unfold stripV stripE
  rw [if_pos hs,if_pos hs,if_pos hx,if_pos hx]
  exact ⟨rfl,rfl⟩
theorem at_fits {c:Cs} {e:Fin 3→Int} {p0 i k:Nat} {x:Ltr} (h:c.At e p0 i k x) (hb:c.bareAt i=true) (hw:(c.jobAt i).emptyB=false→c.whyAt i k=0) :
    k<(c.inAt i).length∧(c.jobAt i).bare.length=(c.inAt i).length∧(c.jobAt i).proofs.length=(c.inAt i).length ∧
      ∃ y p,(c.jobAt i).bare[k]?=some y∧(c.jobAt i).proofs[k]?=some p∧checkBareB (c.keyAt i) [x] [y] [p]=true:=by
  have hk:k<(c.inAt i).length:=(List.getElem?_eq_some_iff.1 h.here).1
  cases he:(c.jobAt i).emptyB
  · have hw0:=hw he
    unfold Cs.whyAt at hw0
    split at hw0
    · omega
    · split at hw0
      · rename_i hst
        unfold strippedB at hst
        simp only [Bool.and_eq_true,decide_eq_true_eq] at hst
        obtain ⟨_,h2,h3,h4⟩:=hst
        refine ⟨hk,h2,h3,_,_,List.getElem?_eq_getElem (by omega),List.getElem?_eq_getElem (by omega),?_⟩
        rw [List.getD_eq_getElem?_getD,List.getD_eq_getElem?_getD,List.getD_eq_getElem?_getD,h.here,List.getElem?_eq_getElem (show k<(c.jobAt i).bare.length by omega),List.getElem?_eq_getElem (show k<(c.jobAt i).proofs.length by omega)] at h4
        exact h4
      · omega
  · unfold Cs.bareAt at hb
    rw [he] at hb
    simp only [Bool.not_true,Bool.false_or] at hb
    obtain ⟨_,h2,h3,_⟩:=checkBare_len hb
    have hy:(c.jobAt i).bare[k]?=some _:=List.getElem?_eq_getElem (by omega)
    have hp:(c.jobAt i).proofs[k]?=some _:=List.getElem?_eq_getElem (by omega)
    exact ⟨hk,h2.symm,h3.symm,_,_,hy,hp,checkBare_one hb h.here hy hp⟩
theorem at_on {c:Cs} {e:Fin 3→Int} (he:∀ k,validB (e k)=true) {p0 i k:Nat} {x y:Ltr} {s:Int} (h:c.At e p0 i k x) (hi:i<c.keys.length) (hv:c.valid=true) (hs:secB s=true) (hkey:pubV s=c.keyAt i)
    (hy:(c.jobAt i).bare[k]?=some y) (hxy:stripL s x=y) (hw:(c.jobAt i).emptyB=false→c.whyAt i k=0) :
    ((c.jobAt i).emptyB=true→c.At e p0 (i+1) k y) ∧
    ((c.jobAt i).emptyB=false→i<c.steps.length∧0≤(c.stepAt i).right.at_∧∃ z,c.At e p0 (i+1) (c.stepAt i).right.at_.toNat z):=by
  have hR:=rest_valid hv (show i+1≤c.keys.length by omega)
  have hrest:c.restAt i=mp (powV 4 s) (c.restAt (i+1)):=by
    unfold Cs.restAt at hR ⊢
    rw [restL_at hi]
    have hk:c.keys.getD i 0=powV 4 s:=by rw [←pubV_eq hs];exact hkey.symm
    rw [hk,mulV_eq (valid_pow valid_four s) hR];rfl
  have hgy:y.good=true:=by rw [←hxy];exact strip_good h.good
  have hEy:Enc (c.restAt (i+1)) e y:=by
    have:=h.enc
    rw [hrest] at this
    rw [←hxy]
    exact enc_strip hR he this
  constructor
  · intro hem
    refine ⟨?_,?_,hgy,hEy⟩
    · rw [←upto_succ hi];exact c.go_bare h.way hem
    · show (nextL (c.jobAt i))[k]?=some y
      unfold nextL
      rw [if_pos hem];exact hy
  · intro hem
    have hw0:=hw hem
    have hw1:=hw0
    unfold Cs.whyAt at hw0
    split at hw0
    · omega
    · rename_i hmid
      split at hw0
      · split at hw0
        · rename_i hop
          have hlt:=opened_lt hop
          unfold openedB at hop
          simp only [Bool.and_eq_true,decide_eq_true_eq] at hop
          obtain ⟨hl,hb,_,_,m0,m1,_,_,_,l1,_,l2⟩:=hop
          unfold lensB at hl
          simp only [Bool.and_eq_true,decide_eq_true_eq] at hl
          have hk:k<(c.inAt i).length:=(List.getElem?_eq_some_iff.1 h.here).1
          have e1:=Ltr.eqB_iff.1 hb
          obtain ⟨k1,g1,q1⟩:=leads_ok l1
          obtain ⟨k2,g2,q2⟩:=leads_ok l2
          have hmi:(c.jobAt i).mi.getD k zeroL=y:=by rw [e1,List.getD_eq_getElem?_getD,hy];rfl
          rw [hmi] at q1 g1
          have hE2:=enc_more (r0:=(c.stepAt i).left.r0) (r1:=(c.stepAt i).left.r1) (r2:=(c.stepAt i).left.r2) hR hEy
          rw [←q1] at hE2
          have hE3:=enc_more (r0:=(c.stepAt i).right.r0) (r1:=(c.stepAt i).right.r1) (r2:=(c.stepAt i).right.r2) hR hE2
          rw [←q2] at hE3
          have hst:i<c.steps.length:=by
            rcases Nat.lt_or_ge i c.steps.length with hh | hh
            · exact hh
            · exact absurd (by unfold Cs.stepAt;rw [List.getD_eq_getElem?_getD,List.getElem?_eq_none hh];rfl) hmid
          refine ⟨hst,hlt.1,_,?_,?_,?_,hE3⟩
          · rw [←upto_succ hi];exact c.go_on h.way hem hw1
          · show (nextL (c.jobAt i))[(c.stepAt i).right.at_.toNat]?=_
            unfold nextL
            rw [if_neg (by rw [hem];simp),List.getD_eq_getElem?_getD,List.getElem?_eq_getElem (by have:=hl.2.2.1;have:=hlt.2;omega)]
            rfl
          · rw [q2];exact more_good hR g2
        · omega
      · omega
theorem at_end {c:Cs} {w:Wd} (hw:w.ok) {p0 k:Nat} {x:Ltr} (h:c.At w.el p0 c.keys.length k x):readV x=w:=by
  refine enc_read hw h.good ?_
  have:=h.enc
  unfold Cs.restAt at this
  rwa [restL_last] at this
theorem way_right {c:Cs} {p0:Nat} (h:(c.way c.keys.length 0 p0).2=0) {i k:Nat} (hi:i<c.keys.length) (hk:(upto c.keys.length i).foldl c.go (some p0)=some k) (he:(c.jobAt i).emptyB=false):c.whyAt i k=0:=by
  rcases Int.decEq (c.whyAt i k) 0 with hn | hy
  · rw [c.way_found hi hk he hn] at h
    exact absurd h hn
  · exact hy
def bareJob (s:Int) (b:List Ltr):Jb:=⟨bareX s b,bareP s b,[],[],[],[],[]⟩
def bareJobs:List Int→List Ltr→List Jb
  | [],_=>[]
  | s::ss,b=>bareJob s b::bareJobs ss (bareX s b)
def bareLast:List Int→List Ltr→List Ltr
  | [],b=>b
  | s::ss,b=>bareLast ss (bareX s b)
theorem bareJobs_length:∀ (ss:List Int) (b:List Ltr),(bareJobs ss b).length=ss.length
  | [],_=>rfl
  | s::ss,b=>by show (bareJobs ss (bareX s b)).length+1=_;rw [bareJobs_length];rfl
theorem bareJobs_at:∀ {ss:List Int} {b:List Ltr} {i:Nat} {s:Int},ss[i]?=some s→(bareJobs ss b)[i]?=some (bareJob s (bareLast (ss.take i) b))
  | [],_,_,_,h=>by simp at h
  | t::ss,b,0,s,h=>by
    simp only [List.getElem?_cons_zero,Option.some.injEq] at h
    subst h;rfl
  | t::ss,b,i+1,s,h=>by
    simp only [List.getElem?_cons_succ] at h
    exact bareJobs_at (b:=bareX t b) h
theorem bareLast_snoc:∀ (ss:List Int) (b:List Ltr) (s:Int),bareLast (ss++[s]) b=bareX s (bareLast ss b)
  | [],_,_=>rfl
  | t::ss,b,s=>bareLast_snoc ss (bareX t b) s
theorem bareLast_chk:∀ {ss:List Int} {b:List Ltr},chkL b=0→chkL (bareLast ss b)=0
  | [],_,h=>h
  | _::ss,_,h=>bareLast_chk (ss:=ss) (chkL_bareX h)
theorem bareLast_length:∀ (ss:List Int) (b:List Ltr),(bareLast ss b).length=b.length
  | [],_=>rfl
  | s::ss,b=>by show (bareLast ss (bareX s b)).length=_;rw [bareLast_length];unfold bareX;simp
def bareCase (ss:List Int) (first:List Ltr) (place:Int) (w:Wd) (r0 r1 r2:Int):Cs:=⟨first,ss.map pubV,bareJobs ss first,place,w,r0,r1,r2,[]⟩
section
variable {ss:List Int} {first:List Ltr} {place:Int} {w:Wd} {r0 r1 r2:Int}
theorem bareCase_job {i:Nat} {s:Int} (h:ss[i]?=some s):(bareCase ss first place w r0 r1 r2).jobAt i=bareJob s (bareLast (ss.take i) first):=by
  unfold Cs.jobAt bareCase
  rw [List.getD_eq_getElem?_getD,bareJobs_at h];rfl
theorem bareCase_in:∀ {i:Nat},i≤ss.length→(bareCase ss first place w r0 r1 r2).inAt i=bareLast (ss.take i) first
  | 0,_=>by rw [List.take_zero];rfl
  | i+1,h=>by
    have hs:ss[i]?=some ss[i]:=List.getElem?_eq_getElem (by omega)
    show nextL ((bareCase ss first place w r0 r1 r2).jobAt i)=_
    rw [bareCase_job hs,List.take_succ_eq_append_getElem (by omega),bareLast_snoc]
    rfl
theorem bareCase_key {i:Nat} {s:Int} (h:ss[i]?=some s):(bareCase ss first place w r0 r1 r2).keyAt i=pubV s:=by
  unfold Cs.keyAt bareCase
  rw [List.getD_eq_getElem?_getD,List.getElem?_map,h];rfl
theorem bareCase_valid (hs:∀ s∈ss,secB s=true):(bareCase ss first place w r0 r1 r2).valid=true:=by
  unfold Cs.valid bareCase
  rw [List.all_eq_true]
  intro k hk
  obtain ⟨s,h1,rfl⟩:=List.mem_map.1 hk
  exact pub_valid (hs s h1)
theorem bareCase_formed (h2:2≤ss.length) (h9:ss.length≤9) (h0:first.length≠0) (hc:chkL first=0) (hp0:0≤place) (hp1:place<first.length):(bareCase ss first place w r0 r1 r2).formed=true:=by
  obtain ⟨c1,c2⟩:=chkL_ok.1 hc
  unfold Cs.formed formedB bareCase
  simp only [Bool.and_eq_true,decide_eq_true_eq,List.length_map,bareJobs_length]
  exact ⟨h2,h9,trivial,by simp,h0,c1,c2,hp0,hp1⟩
theorem bareCase_bare {i:Nat} (hs:∀ s∈ss,secB s=true) (hc:chkL first=0) (hi:i<ss.length):(bareCase ss first place w r0 r1 r2).bareAt i=true∧((bareCase ss first place w r0 r1 r2).jobAt i).emptyB=true:=by
  have hg:ss[i]?=some ss[i]:=List.getElem?_eq_getElem hi
  unfold Cs.bareAt
  rw [bareCase_job hg,bareCase_key hg,bareCase_in (by omega)]
  refine ⟨?_,rfl⟩
  show (!true||checkBareB _ _ _ _)=true
  rw [show (bareJob ss[i] (bareLast (ss.take i) first)).bare=bareX ss[i] (bareLast (ss.take i) first) from rfl,show (bareJob ss[i] (bareLast (ss.take i) first)).proofs=bareP ss[i] (bareLast (ss.take i) first) from rfl,
    bare_ok (hs _ (List.getElem_mem hi)) (bareLast_chk hc)]
  rfl
theorem bareCase_bares (hs:∀ s∈ss,secB s=true) (hc:chkL first=0):(bareCase ss first place w r0 r1 r2).bares=true:=by
  unfold Cs.bares
  rw [List.all_eq_true]
  intro i hi
  have hi':i<ss.length:=by have:=List.mem_range.1 hi;unfold bareCase at this;simpa using this
  exact (bareCase_bare hs hc hi').1
theorem way_empty {c:Cs} : ∀ (f i k:Nat),(∀ j,i≤j→j<i+f→(c.jobAt j).emptyB=true)→c.way f i k=(0,0)
  | 0,_,_,_=>rfl
  | f+1,i,k,h=>by
    show (if (c.jobAt i).emptyB=true then c.way f (i+1) k else _)=_
    rw [if_pos (h i (Nat.le_refl i) (by omega))]
    exact way_empty f (i+1) k (fun j h1 h2=>h j (by omega) (by omega))
theorem bareCase_check (hs:∀ s∈ss,secB s=true) (h2:2≤ss.length) (h9:ss.length≤9) (h0:first.length≠0) (hc:chkL first=0) (hp0:0≤place) (hp1:place<first.length) :
    (bareCase ss first place w r0 r1 r2).check=if (bareCase ss first place w r0 r1 r2).sealed=true then (0,0,0) else (0,1,0):=by
  rw [check_of (bareCase_formed h2 h9 h0 hc hp0 hp1) (bareCase_valid hs) (bareCase_bares hs hc)]
  have hw:(bareCase ss first place w r0 r1 r2).way (bareCase ss first place w r0 r1 r2).keys.length 0 (bareCase ss first place w r0 r1 r2).place.toNat=(0,0) :=
    way_empty _ _ _ (fun j _ hj => (bareCase_bare hs hc (by have : (bareCase ss first place w r0 r1 r2).keys.length = ss.length := by unfold bareCase; simp
                                                            omega)).2)
  rw [hw]
end
theorem pub3:pubV 3=64:=by
  rw [pubV_eq (by decide)]
  unfold powV
  rw [if_pos valid_four]
  decide
theorem pub4:pubV 4=256:=by
  rw [pubV_eq (by decide)]
  unfold powV
  rw [if_pos valid_four]
  decide
def wS:Wd:=⟨5,6,7⟩
def jS:Int:=(restL [64,256]).getD 0 0
theorem keys_ok:∀ k∈[(64:Int),256],validB k=true:=by
  intro k hk
  simp only [List.mem_cons,List.not_mem_nil,or_false] at hk
  rcases hk with rfl | rfl
  · rw [←pub3];exact pub_valid (by decide)
  · rw [←pub4];exact pub_valid (by decide)
theorem rest_head_valid {l:List Int} (h:∀ k∈l,validB k=true):validB ((restL l).getD 0 0)=true:=by
  rw [List.getD_eq_getElem?_getD,List.getElem?_eq_getElem (by rw [restL_length];omega)]
  exact restL_valid h _ (List.getElem_mem _)
theorem jS_valid:validB jS=true:=rest_head_valid keys_ok
theorem seal_is {w:Wd} (hw:w.ok) {key:Int} (hk:validB key=true) (r0 r1 r2:Int):sealV key w.x w.y w.z r0 r1 r2=moreL key r0 r1 r2 (seal0 w.x w.y w.z)∧sealE key w.x w.y w.z=0:=by
  have hb:=sealB_ok.2 hw
  unfold sealV sealE
  rw [if_pos hk,if_pos hk,if_pos hb,if_pos hb]
  exact ⟨rfl,rfl⟩
def lS:Ltr:=moreL jS 1 2 3 (seal0 5 6 7)
theorem secs_ok:∀ s∈[(3:Int),4],secB s=true:=by
  intro s hs
  simp only [List.mem_cons,List.not_mem_nil,or_false] at hs
  rcases hs with rfl | rfl <;> decide
def cS (r2:Int):Cs:=bareCase [3,4] [lS] 0 wS 1 2 r2
def dS (j:Jb):Cs:={ cS 3 with jobs:=[bareJob 3 [lS],j] }
def zeroC:Cs:=⟨[],[],[],0,⟨0,0,0⟩,0,0,0,[]⟩
theorem zeroC_check:zeroC.check=(0,0,550):=by
  unfold Cs.check
  rw [if_neg]
  decide
end Go.Proofs.YtgkpomdegomgiaaGreatDoor

/- Letters under a key that remains: sealed, stripped, sealed again, read. Plain algebra. -/
import Derived.Test.YtgkpomdegomgiaaGreatDoorMap
import Derived.Test.YtgkpomdegomgiaaGreatDoorMaw
set_option maxRecDepth 1000000
set_option maxHeartbeats 16000000
namespace Go.Proofs.YtgkpomdegomgiaaGreatDoor
open Go.RowKit
theorem neg_valid {n:Int} (h1:1≤n) (h2:n<2147483579) (h:¬validB n=true):validB (2147483579 - n)=true:=by
  obtain ⟨m,rfl⟩:=Int.eq_ofNat_of_zero_le (show 0≤n by omega)
  have hm0:0<m:=by omega
  have hm1:m<Pn:=by show m<2147483579;omega
  have hne:powP m Qn≠1:=fun e=>h (vN_to ⟨hm0,hm1,e⟩)
  have hc:=Pn_prime hm0 hm1
  have hp:∀ a,0<a→a<2*Qn+1→Nat.Coprime (2*Qn+1) a:=fun a h2 h3=>Pn_prime h2 h3
  have hg:=gauss_pow (h:=Qn) (a:=m) (by decide) hp hc
  have hm:powP m Qn=2147483578:=by
    unfold powP at hne ⊢
    rw [Pn_eq] at hne ⊢
    rw [hg] at hne ⊢
    split at hne
    · exact absurd rfl hne
    · rename_i hh;rw [if_neg hh];rfl
  have hmo:powP 2147483578 Qn=2147483578:=by rw [powP_fast (by decide)];decide +kernel
  have e:(m*2147483578) % Pn=Pn - m:=by
    have:m*2147483578=(Pn - m)+Pn * (m - 1):=by
      show m*2147483578=(2147483579 - m)+2147483579 * (m - 1)
      have:m<2147483579:=hm1
      omega
    rw [this,Nat.add_mul_mod_self_left,Nat.mod_eq_of_lt (by omega)]
  have ht:=powP_times m 2147483578 Qn
  rw [e,hm,hmo] at ht
  have hv:vN (Pn - m):=⟨by omega,by omega,ht.trans (by decide)⟩
  have:=vN_to hv
  have hcast:(((Pn - m:Nat)):Int)=2147483579 - (m:Int):=by
    have:m<2147483579:=hm1
    show ((2147483579 - m:Nat):Int)=_
    omega
  rw [hcast] at this
  exact this
theorem elem_ok {n:Int} (h:elemB n=true):validB (elemV n)=true∧numV (elemV n)=n:=by
  have hr:1≤n∧n≤1073741789:=by
    unfold elemB elemE at h
    split at h
    · assumption
    · simp at h
  unfold elemV
  rw [if_pos hr]
  by_cases hv:validB n=true
  · rw [if_pos hv]
    refine ⟨hv,?_⟩
    unfold numV
    rw [if_pos hv,if_pos (by omega)]
  · rw [if_neg hv]
    have hv':=neg_valid hr.1 (by omega) hv
    refine ⟨hv',?_⟩
    unfold numV
    rw [if_pos hv',if_neg (by omega)]
    omega
def Enc (R:Int) (e:Fin 3→Int) (x:Ltr):Prop:=∃ r:Fin 3→Int,∀ k,x.aAt k=powV 4 (r k)∧x.bAt k=mp (e k) (powV R (r k))
def Wd.at_ (w:Wd) (k:Fin 3):Int:=match k with | 0=>w.x | 1=>w.y | 2=>w.z
def Wd.el (w:Wd) (k:Fin 3):Int:=elemV (w.at_ k)
def rAt (r0 r1 r2:Int) (k:Fin 3):Int:=match k with | 0=>r0 | 1=>r1 | 2=>r2
theorem tl_mp (a b:Int):timesL [a,b]=mp a b:=timesL_two a b
theorem moreL_at (key r0 r1 r2:Int) (x:Ltr) (k:Fin 3):(moreL key r0 r1 r2 x).aAt k=mp (x.aAt k) (powV 4 (rAt r0 r1 r2 k))∧(moreL key r0 r1 r2 x).bAt k=mp (x.bAt k) (powV key (rAt r0 r1 r2 k)):=by
  match k with
  | 0=>exact ⟨tl_mp _ _,tl_mp _ _⟩
  | 1=>exact ⟨tl_mp _ _,tl_mp _ _⟩
  | 2=>exact ⟨tl_mp _ _,tl_mp _ _⟩
theorem good_of_at {x:Ltr} (h:∀ k,validB (x.aAt k)=true∧validB (x.bAt k)=true):x.good=true :=
  Ltr.good_of _ (fun k=>by rw [goodAt_eq,(h k).1,(h k).2];rfl)
theorem more_good {key r0 r1 r2:Int} {x:Ltr} (hk:validB key=true) (h:x.good=true):(moreL key r0 r1 r2 x).good=true:=good_of_at (fun k=>by
  obtain ⟨ha,hb⟩:=good_at h k
  rw [(moreL_at key r0 r1 r2 x k).1,(moreL_at key r0 r1 r2 x k).2]
  exact ⟨mp_valid ha (valid_pow valid_four _),mp_valid hb (valid_pow hk _)⟩)
theorem seal0_at (w:Wd) (k:Fin 3):(seal0 w.x w.y w.z).aAt k=1∧(seal0 w.x w.y w.z).bAt k=w.el k:=by
  match k with
  | 0=>exact ⟨rfl,rfl⟩
  | 1=>exact ⟨rfl,rfl⟩
  | 2=>exact ⟨rfl,rfl⟩
def Wd.ok (w:Wd):Prop:=∀ k,elemB (w.at_ k)=true
theorem sealB_ok {w:Wd} : sealB w.x w.y w.z=true↔w.ok:=by
  unfold sealB Wd.ok
  simp only [Bool.and_eq_true]
  constructor
  · rintro ⟨⟨h0,h1⟩,h2⟩ k
    match k with
    | 0=>exact h0
    | 1=>exact h1
    | 2=>exact h2
  · intro h;exact ⟨⟨h 0,h 1⟩,h 2⟩
theorem seal_good {key r0 r1 r2:Int} {w:Wd} (hk:validB key=true) (hw:w.ok):(moreL key r0 r1 r2 (seal0 w.x w.y w.z)).good=true :=
  more_good hk (good_of_at (fun k=>by rw [(seal0_at w k).1,(seal0_at w k).2];exact ⟨valid_one,(elem_ok (hw k)).1⟩))
theorem seal_inj {key r0 r1 r2:Int} {w v:Wd} (hk:validB key=true) (hw:w.ok) (hv:v.ok) (h:moreL key r0 r1 r2 (seal0 w.x w.y w.z)=moreL key r0 r1 r2 (seal0 v.x v.y v.z)):w=v:=by
  have hb:∀ k,w.at_ k=v.at_ k:=fun k=>by
    have h1:=(moreL_at key r0 r1 r2 (seal0 w.x w.y w.z) k).2
    have h2:=(moreL_at key r0 r1 r2 (seal0 v.x v.y v.z) k).2
    rw [h,h2,(seal0_at w k).2,(seal0_at v k).2] at h1
    have:=cancel_mul (valid_pow hk _) (elem_ok (hv k)).1 (elem_ok (hw k)).1 h1
    rw [←(elem_ok (hw k)).2,←(elem_ok (hv k)).2]
    exact congrArg numV this.symm
  have h0:=hb 0
  have h1:=hb 1
  have h2:=hb 2
  cases w;cases v
  simp only [Wd.at_] at h0 h1 h2
  subst h0;subst h1;subst h2;rfl
theorem restL_at:∀ {l:List Int} {i:Nat},i<l.length→(restL l).getD i 0=mulV (l.getD i 0) ((restL l).getD (i+1) 0)
  | [],_,h=>by simp at h
  | k::l,0,_=>by
    obtain ⟨r,h1,h2⟩:=restL_head (l:=l)
    show mulV k ((restL l).headD 1)=mulV k ((restL l).getD 0 0)
    rw [List.getD_eq_getElem?_getD,h1,←h2];rfl
  | k::l,i+1,h=>restL_at (l:=l) (i:=i) (by simpa using h)
theorem chk_one {x:Ltr} (h:x.good=true):chkL [x]=0:=chkL_ok.2 ⟨by simp,by simp [h]⟩
structure Cs.At (c:Cs) (e:Fin 3→Int) (p0 i k:Nat) (x:Ltr):Prop where
  way:(upto c.keys.length i).foldl c.go (some p0)=some k
  here:(c.inAt i)[k]?=some x
  good:x.good=true
  enc:Enc (c.restAt i) e x
end Go.Proofs.YtgkpomdegomgiaaGreatDoor

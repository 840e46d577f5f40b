/- elgamal.Check, walked. -/
import Derived.Test.YtoeobcmmafncmaaGreatDoorSai
import Derived.RangeFuncCalls
import Derived.Test.YtoeobcmmafncmaaGreatDoorSah
set_option maxRecDepth 1000000
set_option maxHeartbeats 16000000
namespace Go.Proofs.YtoeobcmmafncmaaGreatDoor
open Go.RowKit
attribute [local go_sem] Oper.semAt_some
structure Ltr where
 a0:Int
 b0:Int
 a1:Int
 b1:Int
 a2:Int
 b2:Int
def Ltr.cells (x:Ltr):Array Value:=#[.int .i64 x.a0,.int .i64 x.b0,.int .i64 x.a1,.int .i64 x.b1,.int .i64 x.a2,.int .i64 x.b2]
def Ltr.goodAt (x:Ltr) (k:Fin 3):Bool:=match k with | 0=>validB x.a0&&validB x.b0 | 1=>validB x.a1&&validB x.b1 | 2=>validB x.a2&&validB x.b2
def Ltr.good (x:Ltr):Bool:=validB x.a0&&validB x.b0&&(validB x.a1&&validB x.b1)&&(validB x.a2&&validB x.b2)
theorem Ltr.at_ (x:Ltr) (k:Fin 3):∃ a b,x.cells[2*k.val]?=some (.int .i64 a)∧x.cells[2*k.val+1]?=some (.int .i64 b)∧x.goodAt k=(validB a&&validB b):=by
 match k with
 | 0=>exact ⟨_,_,rfl,rfl,rfl⟩
 | 1=>exact ⟨_,_,rfl,rfl,rfl⟩
 | 2=>exact ⟨_,_,rfl,rfl,rfl⟩
theorem Ltr.good_eq (x:Ltr):x.good=(x.goodAt 0&&x.goodAt 1&&x.goodAt 2):=rfl
theorem Ltr.good_of (x:Ltr) (h:∀ k,x.goodAt k=true):x.good=true:=by rw [x.good_eq,h,h,h];rfl
theorem Ltr.bad_of (x:Ltr) (k:Fin 3) (h:x.goodAt k=false):x.good=false:=by
 rw [x.good_eq]
 match k,h with
 | 0,h=>rw [h];rfl
 | 1,h=>rw [h];simp
 | 2,h=>rw [h];simp
def Ltr.err (x:Ltr):Int:=if x.good=true then 0 else 100
theorem el_check (x:Ltr) (W:World) :
  Calls Tryz.prog 54 #[.agg #[.int .i64 x.a0,.int .i64 x.b0,.int .i64 x.a1,.int .i64 x.b1,.int .i64 x.a2,.int .i64 x.b2]] W (Ret (.int .i64 x.err) W):=by
 refine calls_of_wp_dm Tryz.func54 rfl ?_
 simp only [Tryz.ntmps54,List.size_toArray,List.length_cons,List.length_nil,Nat.reduceAdd,Nat.reduceSub,Array.replicate_succ,Array.replicate_zero,List.push_toArray,List.append_toArray,List.nil_append,List.cons_append]
 go_wp2_with fail
 refine (ciphers_any _ _).mono ?_
 rintro e w' ⟨rfl,rfl⟩
 go_wp2_with fail
 have BL:Blk (((W.alloc (.cells x.cells 70)).alloc (.cells #[.int .i64 0] 38)).alloc (.cells #[.pointer (some ⟨W.heap.size,0,none⟩)] 138)) W.heap.size 70 x.cells:=((Blk.new W _ _ _ rfl).alloc _).alloc _
 have BE:Blk (((W.alloc (.cells x.cells 70)).alloc (.cells #[.int .i64 0] 38)).alloc (.cells #[.pointer (some ⟨W.heap.size,0,none⟩)] 138)) (W.heap.size+1) 38 #[.int .i64 0]:=(Blk.new _ _ _ _ (by simp)).alloc _
 have BP:Blk (((W.alloc (.cells x.cells 70)).alloc (.cells #[.int .i64 0] 38)).alloc (.cells #[.pointer (some ⟨W.heap.size,0,none⟩)] 138)) (W.heap.size+1+1) 138 #[.pointer (some ⟨W.heap.size,0,none⟩)]:=Blk.new _ _ _ _ (by simp)
 have hb:Below W.heap.size W (((W.alloc (.cells x.cells 70)).alloc (.cells #[.int .i64 0] 38)).alloc (.cells #[.pointer (some ⟨W.heap.size,0,none⟩)] 138)):=bAl (bAl (bAl (bRefl W) _) _) _
 have hw:(((W.alloc (.cells x.cells 70)).alloc (.cells #[.int .i64 0] 38)).alloc (.cells #[.pointer (some ⟨W.heap.size,0,none⟩)] 138)).heap.size=W.heap.size+1+1+1:=by simp
 change Code.wp _ _ _ _ (((W.alloc (.cells x.cells 70)).alloc (.cells #[.int .i64 0] 38)).alloc (.cells #[.pointer (some ⟨W.heap.size,0,none⟩)] 138))
 generalize (((W.alloc (.cells x.cells 70)).alloc (.cells #[.int .i64 0] 38)).alloc (.cells #[.pointer (some ⟨W.heap.size,0,none⟩)] 138))=w3 at *
 refine wp_rangeFuncT 2 (gf:=123) (lb:=#[.pointer (some ⟨W.heap.size+1+1,0,none⟩)]) rfl (enters_of Tryz.func123 (by kernel_rfl) rfl)
  (S:=fun ys=>ys=[0,1,2]) (Sp:=fun pre=>pre.length≤3) (N:=3) (w0:=w3)
  (ciphers_stops (W.heap.size+1+1) W.heap.size (fun k=>k=W.heap.size+1+1) rfl w3 BP)
  (fun k hk=>hk.elim)
  Keeps.trans (Keeps.put (fun k hk=>by omega)) (bRefl _) (fun _=>rfl)
  (fun pre W'=>Blk W' W.heap.size 70 x.cells∧Blk W' (W.heap.size+1) 38 #[.int .i64 0]∧Below W.heap.size W W'∧Hid (∀ k∈pre,x.goodAt k=true))
  (fun k a₁ pre W'=>(Blk W' W.heap.size 70 x.cells∧Blk W' (W.heap.size+1) 38 #[.int .i64 0]∧Below W.heap.size W W'∧Hid (∀ k∈pre,x.goodAt k=true))∧a₁={ tmps:=#[.agg #[.int .i64 x.a0,.int .i64 x.b0,.int .i64 x.a1,.int .i64 x.b1,.int .i64 x.a2,.int .i64 x.b2],.pointer (some ⟨W.heap.size,0,none⟩),.pointer (some ⟨W.heap.size+1,0,none⟩),undef,.pointer (some ⟨W.heap.size,2*k.val,none⟩),.func (.func 123) #[] #[.pointer (some ⟨W.heap.size+1+1,0,none⟩)],.int .i64 (k.val:Nat),.pointer (some ⟨W.heap.size,2*k.val,none⟩),undef,undef,undef,undef,undef,undef,undef,undef,undef,undef,undef,undef,undef,undef],defers:=[] })
  (fun c pre W'=>c = .ret∧Blk W' (W.heap.size+1) 38 #[.int .i64 100]∧Below W.heap.size W W'∧Hid (x.good=false))
  (fun pre A' B' row h hg hr=>⟨h.1.kept hg hr,h.2.1.kept hg hr,bGrown h.2.2.1 hg hb.size hr,h.2.2.2⟩)
  (fun k a pre A' B' row h hg hr=>⟨⟨h.1.1.kept hg hr,h.1.2.1.kept hg hr,bGrown h.1.2.2.1 hg hb.size hr,h.1.2.2.2⟩,h.2⟩)
  (fun c pre A' B' row h hg hr=>⟨h.1,h.2.1.kept hg hr,bGrown h.2.2.1 hg hb.size hr,h.2.2.2⟩)
  (fun _ _ _ _ _ ht=>ht.elim)
  (fun _ _ _ _ _ _ ht=>ht.elim)
  ⟨BL,BE,hb,Lib.hid (fun k hk=>by cases hk)⟩ ?assign ?body ?done ?stop
 case assign =>
  rintro L pre k Wc h hlen
  dsimp only [cphE]
  gi_wp2
  exact ⟨KeepsOthers.refl _,Keeps.refl _ _,h,trivial⟩
 case body =>
  rintro L pre k a₁ Wc ⟨⟨hL,hE,hbc,hg⟩,rfl⟩ hlen
  obtain ⟨a,b,ha,hb',hgd⟩:=x.at_ k
  have d1:Wc.cell? ⟨W.heap.size,2*k.val,none⟩=some (.int .i64 a):=(hL.cell _).trans ha
  have d2:Wc.cell? ⟨W.heap.size,2*k.val+1,none⟩=some (.int .i64 b):=(hL.cell _).trans hb'
  have z1:Wc.cell? ⟨W.heap.size+1,0,none⟩=some (.int .i64 0):=hE.cell 0
  have z2:=hE.frozen 0
  have hGd:=Lib.hid hgd
  clear ha hb' hgd
  have q1:=group_valid a Wc
  have q2:=group_valid b Wc
  cases h1:validB a
  ·have hbad:Hid (x.good=false):=by show _=_;exact x.bad_of k (by rw [hGd.out,h1];rfl)
   rw [h1] at q1
   clear h1 q2
   gi_wp2
   refine ⟨trivial,?_⟩
   (with_reducible refine (inR L q1).mono ?_)
   rintro e w' ⟨rfl,rfl⟩
   clear q1
   gi_wp2
   refine ⟨trivial,?_⟩
   gi_wp2
   exact ⟨KeepsOthers.setCell _ _ _,rfl,hE.set_ 0 _,bSet hbc (by show W.heap.size≤W.heap.size+1;omega) _,hbad⟩
  ·cases h2:validB b
   ·have hbad:Hid (x.good=false):=by show _=_;exact x.bad_of k (by rw [hGd.out,h1,h2];rfl)
    rw [h1] at q1
    rw [h2] at q2
    clear h1 h2
    gi_wp2
    refine ⟨trivial,?_⟩
    (with_reducible refine (inR L q1).mono ?_)
    rintro e w' ⟨rfl,rfl⟩
    clear q1
    gi_wp2
    refine ⟨trivial,?_⟩
    (with_reducible refine (inR L q2).mono ?_)
    rintro e w' ⟨rfl,rfl⟩
    clear q2
    gi_wp2
    exact ⟨KeepsOthers.setCell _ _ _,rfl,hE.set_ 0 _,bSet hbc (by show W.heap.size≤W.heap.size+1;omega) _,hbad⟩
   ·have hok:Hid (∀ j∈pre++[k],x.goodAt j=true):=by
     intro j hj
     rcases List.mem_append.1 hj with hj | hj
     ·exact hg.out j hj
     ·obtain rfl:j=k:=by simpa using hj
      rw [hGd.out,h1,h2];rfl
    rw [h1] at q1
    rw [h2] at q2
    clear h1 h2
    gi_wp2
    refine ⟨trivial,?_⟩
    (with_reducible refine (inR L q1).mono ?_)
    rintro e w' ⟨rfl,rfl⟩
    clear q1
    gi_wp2
    refine ⟨trivial,?_⟩
    (with_reducible refine (inR L q2).mono ?_)
    rintro e w' ⟨rfl,rfl⟩
    clear q2
    gi_wp2
    exact ⟨KeepsOthers.refl _,Keeps.refl _ _,hL,hE,hbc,hok⟩
 case done =>
  rintro D xs Wc hD hp ⟨hL,hE,hbc,hg⟩ hd
  have herr:Hid (x.err=0):=by
   show _=_
   have:x.good=true:=x.good_of (fun k=>hg.out k (by subst hp;match k with | 0=>simp | 1=>simp | 2=>simp))
   unfold Ltr.err;rw [this];rfl
  have z1:Wc.cell? ⟨W.heap.size+1,0,none⟩=some (.int .i64 0):=hE.cell 0
  have z2:=hE.frozen 0
  have hD':W.heap.size≤D:=by omega
  have hdd:(Wc.setCell ⟨W.heap.size+1,0,none⟩ (.int .i64 0)).heap[D]?=some (.deferred (some [])):=by
   rw [Below.heap_setCell _ _ _ _ (by intro e;subst e;unfold Blk at hE;rw [hE] at hd;cases hd)];exact hd
  have hE2:=(hE.set_ 0 (.int .i64 0)).put (o' := .deferred none) hdd rfl
  go_wp2_with fail
  refine leavesM_mark (by simp) hdd ?_
  have e1:=hE2.cell 0
  exact ⟨.int .i64 0,by simp [results,Tryz.results54,go_sem,e1],ret_int herr.out.symm,bPut (bSet hbc (by show W.heap.size≤W.heap.size+1;omega) _) hD' _⟩
 case stop =>
  rintro D c' pre Wc hD _ ⟨rfl,hE,hbc,hbad⟩ hd
  have herr:Hid (x.err=100):=by show _=_;unfold Ltr.err;rw [hbad.out];rfl
  have hD':W.heap.size≤D:=by omega
  have hE2:=hE.put (o' := .deferred none) hd rfl
  go_wp2_with fail
  refine leavesM_mark (by simp) hd ?_
  have e1:=hE2.cell 0
  exact ⟨.int .i64 100,by simp [results,Tryz.results54,go_sem,e1],ret_int herr.out.symm,bPut hbc hD' _⟩
end Go.Proofs.YtoeobcmmafncmaaGreatDoor
namespace Go.Proofs.YtoeobcmmafncmaaGreatDoor
open Go.RowKit
def vN (a:Nat):Prop:=0<a∧a<Pn∧powP a Qn=1
theorem vN_of {a:Int} (h:validB a=true):∃ n:Nat,a=n∧vN n:=by
 obtain ⟨h1,h2,h3⟩:=(validB_iff a).1 h
 obtain ⟨n,rfl⟩:=Int.eq_ofNat_of_zero_le (show 0≤a by omega)
 exact ⟨n,rfl,by omega,by unfold Pn;omega,by simpa using h3⟩
theorem vN_to {n:Nat} (h:vN n):validB (n:Int)=true:=by
 obtain ⟨h1,h2,h3⟩:=h
 unfold Pn at h2
 exact (validB_iff _).2 ⟨by omega,by omega,by simpa using h3⟩
theorem powP_cong {a m n:Nat} (h:vN a) (e:m % Qn=n % Qn):powP a m=powP a n:=by
 have key:∀ k,powP a k=powP a (k % Qn):=fun k=>by
  conv=>lhs;rw [←Nat.div_add_mod k Qn]
  rw [powP_add,powP_mul,h.2.2,one_powP,Nat.one_mul]
  exact Nat.mod_eq_of_lt (powP_lt _ _)
 rw [key m,key n,e]
theorem expN_add (m n:Int):expN (m+n) % Qn=(expN m+expN n) % Qn:=by
 unfold expN Qn
 omega
theorem expN_mul (m n:Int):expN (m*n) % Qn=(expN m*expN n) % Qn:=by
 unfold expN Qn
 have h:((m*n % 1073741789).toNat:Int) % 1073741789=((m % 1073741789).toNat * (n % 1073741789).toNat:Nat) % 1073741789:=by
  rw [Int.natCast_mul,Int.toNat_of_nonneg (Int.emod_nonneg _ (by omega)),Int.toNat_of_nonneg (Int.emod_nonneg _ (by omega)),Int.toNat_of_nonneg (Int.emod_nonneg _ (by omega)),Int.emod_emod_of_dvd _ (Int.dvd_refl _),Int.mul_emod]
 omega
theorem powV_nat {a:Nat} (h:vN a) (n:Int):powV (a:Int) n=(powP a (expN n):Nat):=by
 unfold powV;rw [if_pos (vN_to h),Int.toNat_natCast]
theorem zero_powP {n:Nat} (h:0<n):powP 0 n=0:=by unfold powP;rw [Nat.zero_pow h];rfl
theorem emm (a b:Int):a % 2147483579*b % 2147483579=a*b % 2147483579:=by rw [Int.mul_emod,Int.emod_emod_of_dvd _ (Int.dvd_refl _),←Int.mul_emod]
theorem vN_pow {a:Nat} (h:vN a) (n:Nat):vN (powP a n):=by
 refine ⟨?_,powP_lt _ _,?_⟩
 ·rcases Nat.eq_zero_or_pos (powP a n) with h0 | h0
  ·have h1:powP (powP a n) Qn=1:=by rw [←powP_mul,Nat.mul_comm,powP_mul,h.2.2,one_powP]
   rw [h0] at h1
   have:powP 0 Qn=0:=zero_powP (by decide)
   omega
  ·exact h0
 ·rw [←powP_mul,Nat.mul_comm,powP_mul,h.2.2,one_powP]
theorem vN_mul {a b:Nat} (ha:vN a) (hb:vN b):vN (a*b % Pn):=by
 have h1:powP (a*b % Pn) Qn=1:=by rw [powP_times,ha.2.2,hb.2.2];rfl
 refine ⟨?_,Nat.mod_lt _ (by decide),h1⟩
 rcases Nat.eq_zero_or_pos (a*b % Pn) with h0 | h0
 ·rw [h0] at h1
  have:powP 0 Qn=0:=zero_powP (by decide)
  omega
 ·exact h0
theorem Pn_int:((Pn:Nat):Int)=2147483579:=rfl
theorem valid_pow {a:Int} (h:validB a=true) (n:Int):validB (powV a n)=true:=by
 obtain ⟨x,rfl,hx⟩:=vN_of h
 rw [powV_nat hx];exact vN_to (vN_pow hx _)
theorem valid_mul {a b:Int} (ha:validB a=true) (hb:validB b=true):validB (a*b % 2147483579)=true:=by
 obtain ⟨x,rfl,hx⟩:=vN_of ha
 obtain ⟨y,rfl,hy⟩:=vN_of hb
 rw [←Pn_int,←Int.natCast_mul,←Int.natCast_emod]
 exact vN_to (vN_mul hx hy)
theorem powV_add {a:Int} (h:validB a=true) (m n:Int):powV a (m+n)=powV a m*powV a n % 2147483579:=by
 obtain ⟨x,rfl,hx⟩:=vN_of h
 rw [powV_nat hx,powV_nat hx,powV_nat hx,powP_cong hx (expN_add m n),powP_add]
 simp [Pn]
theorem powV_mul {a:Int} (h:validB a=true) (m n:Int):powV (powV a m) n=powV a (m*n):=by
 obtain ⟨x,rfl,hx⟩:=vN_of h
 rw [powV_nat hx,powV_nat hx,powV_nat (vN_pow hx _),powP_cong hx (expN_mul m n),powP_mul]
theorem powV_cong {a:Int} {m n:Int} (e:m % 1073741789=n % 1073741789):powV a m=powV a n:=by
 unfold powV expN;rw [e]
theorem powV_times {a b:Int} (ha:validB a=true) (hb:validB b=true) (n:Int):powV (a*b % 2147483579) n=powV a n*powV b n % 2147483579:=by
 obtain ⟨x,rfl,hx⟩:=vN_of ha
 obtain ⟨y,rfl,hy⟩:=vN_of hb
 have:((x:Int)*y % 2147483579)=((x*y % Pn:Nat):Int):=by simp [Pn]
 rw [this,powV_nat (vN_mul hx hy),powV_nat hx,powV_nat hy,powP_times]
 simp [Pn]
theorem powV_zero {a:Int} (h:validB a=true):powV a 0=1:=by
 obtain ⟨x,rfl,hx⟩:=vN_of h
 rw [powV_nat hx];rfl
theorem powV_one {a:Int} (h:validB a=true):powV a 1=a:=by
 obtain ⟨x,rfl,hx⟩:=vN_of h
 rw [powV_nat hx]
 have:expN 1=1:=rfl
 rw [this,powP_one x hx.2.1]
theorem powV_inv {a:Int} (h:validB a=true):a*powV a (-1) % 2147483579=1:=by
 have h1:=powV_add h 1 (-1)
 rw [powV_one h] at h1
 rw [←h1];exact powV_zero h
theorem valid_one:validB 1=true:=by
 rw [validB_iff];exact ⟨by omega,by omega,one_powP _⟩
theorem valid_four:validB 4=true:=by
 rw [validB_iff]
 refine ⟨by omega,by omega,?_⟩
 show powP 4 Qn=1
 rw [powP_fast (by decide)];decide +kernel
theorem mulV_eq {a b:Int} (ha:validB a=true) (hb:validB b=true):mulV a b=a*b % 2147483579:=(mulV_yes ha hb).1
theorem valid_mulV {a b:Int} (ha:validB a=true) (hb:validB b=true):validB (mulV a b)=true:=by rw [mulV_eq ha hb];exact valid_mul ha hb
theorem modP {a:Int} (h:validB a=true):a % 2147483579=a:=by
 obtain ⟨h1,h2⟩:=validB_rng h
 exact Int.emod_eq_of_lt (by omega) h2
theorem timesL_two (a b:Int):timesL [a,b]=a*b % 2147483579:=by
 show 1*a % 2147483579*b % 2147483579=_
 rw [Int.one_mul,emm]
theorem mulL_two {a b:Int} (ha:validB a=true) (hb:validB b=true):mulL [a,b]=a*b % 2147483579:=by
 unfold mulL
 simp only [List.foldl]
 rw [mulV_eq valid_one ha,Int.one_mul,modP ha,mulV_eq ha hb]
theorem cancel_mul {a x y:Int} (ha:validB a=true) (hx:validB x=true) (hy:validB y=true) (h:x*a % 2147483579=y*a % 2147483579):x=y:=by
 have h1:(x*a % 2147483579)*powV a (-1) % 2147483579=(y*a % 2147483579)*powV a (-1) % 2147483579:=by rw [h]
 have key:∀ z,(z*a % 2147483579)*powV a (-1) % 2147483579=z % 2147483579:=fun z=>by
  rw [emm,Int.mul_assoc,Int.mul_emod,powV_inv ha,Int.mul_one,Int.emod_emod_of_dvd _ (Int.dvd_refl _)]
 rw [key,key,modP hx,modP hy] at h1
 exact h1
attribute [local go_sem] Oper.semAt_some
def Ltr.agg (x:Ltr):Value := .agg #[.int .i64 x.a0,.int .i64 x.b0,.int .i64 x.a1,.int .i64 x.b1,.int .i64 x.a2,.int .i64 x.b2]
def zeroL:Ltr:=⟨0,0,0,0,0,0⟩
theorem Blk.six {w:World} {b:Nat} {t:TypeId} {v0 v1 v2 v3 v4 v5:Value} (h:Blk w b t #[v0,v1,v2,v3,v4,v5]) :
  w.cell? ⟨b,0,none⟩=some v0∧w.cell? ⟨b,1,none⟩=some v1∧w.cell? ⟨b,2,none⟩=some v2∧w.cell? ⟨b,3,none⟩=some v3∧w.cell? ⟨b,4,none⟩=some v4∧w.cell? ⟨b,5,none⟩=some v5 :=
 ⟨h.cell 0,h.cell 1,h.cell 2,h.cell 3,h.cell 4,h.cell 5⟩
theorem Blk.six_free {w:World} {b:Nat} {t:TypeId} {cs:Array Value} (h:Blk w b t cs) :
  w.frozen? ⟨b,0,none⟩=false∧w.frozen? ⟨b,1,none⟩=false∧w.frozen? ⟨b,2,none⟩=false∧w.frozen? ⟨b,3,none⟩=false∧w.frozen? ⟨b,4,none⟩=false∧w.frozen? ⟨b,5,none⟩=false :=
 ⟨h.frozen 0,h.frozen 1,h.frozen 2,h.frozen 3,h.frozen 4,h.frozen 5⟩
def set6 (w:World) (b:Nat) (v0 v1 v2 v3 v4 v5:Value):World :=
 (((((w.setCell ⟨b,0,none⟩ v0).setCell ⟨b,1,none⟩ v1).setCell ⟨b,2,none⟩ v2).setCell ⟨b,3,none⟩ v3).setCell ⟨b,4,none⟩ v4).setCell ⟨b,5,none⟩ v5
theorem Blk.set6 {w:World} {b:Nat} {t:TypeId} {u0 u1 u2 u3 u4 u5:Value} (h:Blk w b t #[u0,u1,u2,u3,u4,u5]) (v0 v1 v2 v3 v4 v5:Value):Blk (Proofs.YtoeobcmmafncmaaGreatDoor.set6 w b v0 v1 v2 v3 v4 v5) b t #[v0,v1,v2,v3,v4,v5]:=by
 have:=(((((h.set_ 0 v0).set_ 1 v1).set_ 2 v2).set_ 3 v3).set_ 4 v4).set_ 5 v5
 unfold Proofs.YtoeobcmmafncmaaGreatDoor.set6
 simpa using this
theorem bSet6 {a w:World} (h:Below a.heap.size a w) {b:Nat} (hb:a.heap.size≤b) (v0 v1 v2 v3 v4 v5:Value):Below a.heap.size a (set6 w b v0 v1 v2 v3 v4 v5) :=
 bSet (bSet (bSet (bSet (bSet (bSet h (p:=⟨b,0,none⟩) hb _) (p:=⟨b,1,none⟩) hb _) (p:=⟨b,2,none⟩) hb _) (p:=⟨b,3,none⟩) hb _) (p:=⟨b,4,none⟩) hb _) (p:=⟨b,5,none⟩) hb _
theorem heap_set6 {w:World} {b D:Nat} (hne:b≠D) (v0 v1 v2 v3 v4 v5:Value):(set6 w b v0 v1 v2 v3 v4 v5).heap[D]?=w.heap[D]?:=by
 unfold set6
 iterate 6 rw [Below.heap_setCell _ _ _ _ (fun e=>hne e.symm)]
theorem ne_mark {w:World} {b D:Nat} {t:TypeId} {cs:Array Value} (h:Blk w b t cs) {o:Obj} (hd:w.heap[D]?=some o) (ho:o.isCells=false):b≠D:=by
 intro e;subst e;unfold Blk at h;rw [h] at hd;cases hd;cases ho
def ChgAt (fid:Nat) (caps:Array Value) (base:World) (G:Ltr→Prop) (upd:Ltr→Fin 3→Ltr):Prop :=
 ∀ (k:Fin 3) (y:Ltr) (s:Nat) (Wc:World),Below base.heap.size base Wc→base.heap.size≤s→G y→Blk Wc s 70 y.cells →
  Calls Tryz.prog fid (#[.int .i64 (k.val:Nat),.pointer (some ⟨s,2*k.val,none⟩)]++caps) Wc (fun e w'=>e = .returned (.tuple #[])∧Wc.grownBy w' (some s)∧Blk w' s 70 (upd y k).cells)
theorem el_changed (upd:Ltr→Fin 3→Ltr) (G:Ltr→Prop) (hG:∀ y k,G y→G (upd y k)) (x:Ltr) (hx:G x) (fid:Nat) (hfid:fid=81∨fid=81) (caps:Array Value) (nb:Nat) (W:World)
  (hB:Blk W nb 102 #[.func (.func fid) #[] caps]) (hf:ChgAt fid caps W G upd) :
  Calls Tryz.prog 45 #[x.agg,.slice (some ⟨nb,0,none⟩) 1 1] W (Ret (upd (upd (upd x 0) 1) 2).agg W):=by
 refine calls_of_wp_dm Tryz.func45 rfl ?_
 unfold Ltr.agg
 simp only [Tryz.ntmps45,List.size_toArray,List.length_cons,List.length_nil,Nat.reduceAdd,Nat.reduceSub,Array.replicate_succ,Array.replicate_zero,List.push_toArray,List.append_toArray,List.nil_append,List.cons_append]
 go_wp2_with fail
 refine (ciphers_any _ _).mono ?_
 rintro e w' ⟨rfl,rfl⟩
 go_wp2_with fail
 have BL:Blk ((((W.alloc (.cells x.cells 70)).alloc (.cells #[.slice (some ⟨nb,0,none⟩) 1 1] 134)).alloc (.cells zeroL.cells 70)).alloc (.cells #[.pointer (some ⟨W.heap.size,0,none⟩)] 138)) W.heap.size 70 x.cells:=(((Blk.new W _ _ _ rfl).alloc _).alloc _).alloc _
 have BS:Blk ((((W.alloc (.cells x.cells 70)).alloc (.cells #[.slice (some ⟨nb,0,none⟩) 1 1] 134)).alloc (.cells zeroL.cells 70)).alloc (.cells #[.pointer (some ⟨W.heap.size,0,none⟩)] 138)) (W.heap.size+1) 134 #[.slice (some ⟨nb,0,none⟩) 1 1]:=((Blk.new _ _ _ _ (by simp)).alloc _).alloc _
 have BR:Blk ((((W.alloc (.cells x.cells 70)).alloc (.cells #[.slice (some ⟨nb,0,none⟩) 1 1] 134)).alloc (.cells zeroL.cells 70)).alloc (.cells #[.pointer (some ⟨W.heap.size,0,none⟩)] 138)) (W.heap.size+1+1) 70 zeroL.cells:=(Blk.new _ _ _ _ (by simp)).alloc _
 have BP:Blk ((((W.alloc (.cells x.cells 70)).alloc (.cells #[.slice (some ⟨nb,0,none⟩) 1 1] 134)).alloc (.cells zeroL.cells 70)).alloc (.cells #[.pointer (some ⟨W.heap.size,0,none⟩)] 138)) (W.heap.size+1+1+1) 138 #[.pointer (some ⟨W.heap.size,0,none⟩)]:=Blk.new _ _ _ _ (by simp)
 have BN:Blk ((((W.alloc (.cells x.cells 70)).alloc (.cells #[.slice (some ⟨nb,0,none⟩) 1 1] 134)).alloc (.cells zeroL.cells 70)).alloc (.cells #[.pointer (some ⟨W.heap.size,0,none⟩)] 138)) nb 102 #[.func (.func fid) #[] caps]:=(((hB.alloc _).alloc _).alloc _).alloc _
 have hb:Below W.heap.size W ((((W.alloc (.cells x.cells 70)).alloc (.cells #[.slice (some ⟨nb,0,none⟩) 1 1] 134)).alloc (.cells zeroL.cells 70)).alloc (.cells #[.pointer (some ⟨W.heap.size,0,none⟩)] 138)):=bAl (bAl (bAl (bAl (bRefl W) _) _) _) _
 change Code.wp _ _ _ _ ((((W.alloc (.cells x.cells 70)).alloc (.cells #[.slice (some ⟨nb,0,none⟩) 1 1] 134)).alloc (.cells zeroL.cells 70)).alloc (.cells #[.pointer (some ⟨W.heap.size,0,none⟩)] 138))
 generalize ((((W.alloc (.cells x.cells 70)).alloc (.cells #[.slice (some ⟨nb,0,none⟩) 1 1] 134)).alloc (.cells zeroL.cells 70)).alloc (.cells #[.pointer (some ⟨W.heap.size,0,none⟩)] 138))=w3 at *
 have hnb:=hB.lt
 have hz3:=BP.lt
 clear hB
 refine wp_rangeB 2 (gf:=123) (lb:=#[.pointer (some ⟨W.heap.size+1+1+1,0,none⟩)]) rfl (enters_of Tryz.func123 (by kernel_rfl) rfl)
  (fun k=>k=W.heap.size+1+1+1) (ciphers_stops (W.heap.size+1+1+1) W.heap.size (fun k=>k=W.heap.size+1+1+1) rfl w3 BP) (fun k hk=>by omega) (fun _=>rfl) W hb
  (fun pre=>[(W.heap.size,70,(pre.foldl upd x).cells),(W.heap.size+1,134,#[.slice (some ⟨nb,0,none⟩) 1 1]),(W.heap.size+1+1,70,zeroL.cells),(nb,102,#[.func (.func fid) #[] caps]),(W.heap.size+1+1+1,138,#[.pointer (some ⟨W.heap.size,0,none⟩)])])
  (fun pre=>G (pre.foldl upd x)) (fun _ _=>[]) (fun _ _=>False) ⟨BL,BS,BR,BN,BP,trivial⟩ hx ?round ?done ?stop
 case stop=>exact fun _ _ _ _ _ _ _ _ h=>h.elim
 case round =>
  rintro l pre k W0 hlen
  clear BL BS BR BP BN hb
  dsimp only [cphE]
  gi_wp2
  refine ⟨trivial,fun L Wc hbc hBl hGp=>?_⟩
  obtain ⟨c1,c2,c3,c4,c5,_⟩:=hBl
  dsimp only at c1 c2 c3 c4 c5
  have c1':=c1
  have d1:Wc.cell? ⟨W.heap.size+1,0,none⟩=some (.slice (some ⟨nb,0,none⟩) 1 1):=c2.cell 0
  have d2:Wc.cell? ⟨nb,0,none⟩=some (.func (.func fid) #[] caps):=c4.cell 0
  gi_wp2
  gi_loopw [14] (fun i wr=>∃ (m:Int),i = .int .i64 m∧(m=0∧wr=Wc∨m=1∧Wc.grownBy wr (some W.heap.size)∧Blk wr W.heap.size 70 (upd (pre.foldl upd x) k).cells)) (fun i _=>1 - (intOf i).toNat)
  case atStart=>exact ⟨0,rfl,.inl ⟨rfl,rfl⟩⟩
  case round =>
   obtain ⟨m,rfl,(⟨rfl,rfl⟩ | ⟨rfl,hgr,hbk⟩)⟩:=hrel
   ·have q:=hf k (pre.foldl upd x) W.heap.size _ hbc (Nat.le_refl _) hGp c1
    generalize hy:upd (List.foldl upd x pre) k=y at *
    generalize List.foldl upd x pre=y0 at *
    clear hy
    rcases hfid with rfl | rfl
    all_goals
     gi_wp2_with fail
     refine ⟨trivial,?_⟩
     (with_reducible refine (inR L q).mono ?_)
     rintro e w' ⟨rfl,hg,hbk⟩
     clear q
     gi_wp2_with fail
     exact ⟨⟨1,rfl,.inr ⟨rfl,hg,hbk⟩⟩,by simp [intOf]⟩
   ·clear c1 d1 d2
    gi_wp2
    have hfold:(pre++[k]).foldl upd x=upd (pre.foldl upd x) k:=by simp
    have hc5:=c5.lt
    refine ⟨KeepsOthers.grown hgr c1',Keeps.grown hgr (fun j hj=>⟨by omega,by omega⟩),bGrownS hbc hgr (Nat.le_refl _),⟨?_,c2.grown hgr (by show W.heap.size+1≠W.heap.size;omega),c3.grown hgr (by show W.heap.size+1+1≠W.heap.size;omega),c4.grown hgr (by show nb≠W.heap.size;omega),c5.grown hgr (by show W.heap.size+1+1+1≠W.heap.size;omega),trivial⟩,?_⟩
    ·show Blk _ _ _ ((pre++[k]).foldl upd x).cells
     rw [hfold];exact hbk
    ·show G ((pre++[k]).foldl upd x)
     rw [hfold];exact hG _ _ hGp
 case done =>
  rintro D xs Wc hD rfl hbc ⟨c1,c2,c3,c4,c5,_⟩ hGp hd
  change Blk Wc W.heap.size _ (upd (upd (upd x 0) 1) 2).cells at c1
  dsimp only at c3
  clear hGp BL BS BR BP BN hb c2 c4 c5 hf hG hx
  generalize upd (upd (upd x 0) 1) 2=y at *
  obtain ⟨k0,k1,k2,k3,k4,k5⟩:=Blk.six (v0 := .int .i64 y.a0) (v1 := .int .i64 y.b0) (v2 := .int .i64 y.a1) (v3 := .int .i64 y.b1) (v4 := .int .i64 y.a2) (v5 := .int .i64 y.b2) c1
  obtain ⟨m0,m1,m2,m3,m4,m5⟩:=Blk.six (v0 := .int .i64 0) (v1 := .int .i64 0) (v2 := .int .i64 0) (v3 := .int .i64 0) (v4 := .int .i64 0) (v5 := .int .i64 0) c3
  obtain ⟨z0,z1,z2,z3,z4,z5⟩:=c3.six_free
  have c6:=Blk.set6 (u0 := .int .i64 0) (u1 := .int .i64 0) (u2 := .int .i64 0) (u3 := .int .i64 0) (u4 := .int .i64 0) (u5 := .int .i64 0) c3 (.int .i64 y.a0) (.int .i64 y.b0) (.int .i64 y.a1) (.int .i64 y.b1) (.int .i64 y.a2) (.int .i64 y.b2)
  have hb6:=bSet6 (b:=W.heap.size+1+1) hbc (by omega) (.int .i64 y.a0) (.int .i64 y.b0) (.int .i64 y.a1) (.int .i64 y.b1) (.int .i64 y.a2) (.int .i64 y.b2)
  have hd6:=(heap_set6 (ne_mark c3 hd rfl) (.int .i64 y.a0) (.int .i64 y.b0) (.int .i64 y.a1) (.int .i64 y.b1) (.int .i64 y.a2) (.int .i64 y.b2)).trans hd
  have c7:=c6.put (o' := .deferred none) hd6 rfl
  go_wp2_with fail
  change LeavesM _ _ _ _ _ _ (set6 Wc (W.heap.size+1+1) (.int .i64 y.a0) (.int .i64 y.b0) (.int .i64 y.a1) (.int .i64 y.b1) (.int .i64 y.a2) (.int .i64 y.b2))
  refine leavesM_mark (by simp) hd6 ?_
  obtain ⟨e0,e1,e2,e3,e4,e5⟩:=c7.six
  exact ⟨.agg #[.int .i64 y.a0,.int .i64 y.b0,.int .i64 y.a1,.int .i64 y.b1,.int .i64 y.a2,.int .i64 y.b2],by simp [results,Tryz.results45,go_sem,e0,e1,e2,e3,e4,e5],rfl,bPut hb6 hD _⟩
end Go.Proofs.YtoeobcmmafncmaaGreatDoor
namespace Go.Proofs.YtoeobcmmafncmaaGreatDoor
open Go.RowKit
def Ltr.inP (x:Ltr):Prop:=(Proofs.YtoeobcmmafncmaaGreatDoor.inP x.a0∧Proofs.YtoeobcmmafncmaaGreatDoor.inP x.b0)∧(Proofs.YtoeobcmmafncmaaGreatDoor.inP x.a1∧Proofs.YtoeobcmmafncmaaGreatDoor.inP x.b1)∧Proofs.YtoeobcmmafncmaaGreatDoor.inP x.a2∧Proofs.YtoeobcmmafncmaaGreatDoor.inP x.b2
def stripU (n:Int) (y:Ltr) (k:Fin 3):Ltr:=match k with
 | 0=>{ y with b0:=timesL [y.b0,powV y.a0 (-n)] }
 | 1=>{ y with b1:=timesL [y.b1,powV y.a1 (-n)] }
 | 2=>{ y with b2:=timesL [y.b2,powV y.a2 (-n)] }
def moreU (key r0 r1 r2:Int) (y:Ltr) (k:Fin 3):Ltr:=match k with
 | 0=>{ y with a0:=timesL [y.a0,powV 4 r0],b0:=timesL [y.b0,powV key r0] }
 | 1=>{ y with a1:=timesL [y.a1,powV 4 r1],b1:=timesL [y.b1,powV key r1] }
 | 2=>{ y with a2:=timesL [y.a2,powV 4 r2],b2:=timesL [y.b2,powV key r2] }
theorem moreU_inP (key r0 r1 r2:Int) (y:Ltr) (k:Fin 3) (h:y.inP):(moreU key r0 r1 r2 y k).inP:=by
 obtain ⟨⟨h1,h2⟩,⟨h3,h4⟩,h5,h6⟩:=h
 match k with
 | 0=>exact ⟨⟨timesL_inP _,timesL_inP _⟩,⟨h3,h4⟩,h5,h6⟩
 | 1=>exact ⟨⟨h1,h2⟩,⟨timesL_inP _,timesL_inP _⟩,h5,h6⟩
 | 2=>exact ⟨⟨h1,h2⟩,⟨h3,h4⟩,timesL_inP _,timesL_inP _⟩
theorem good_inP {x:Ltr} (h:x.good=true):x.inP:=by
 unfold Ltr.good at h
 simp only [Bool.and_eq_true] at h
 obtain ⟨⟨⟨h1,h2⟩,h3,h4⟩,h5,h6⟩:=h
 have k:∀ {a:Int},validB a=true→Proofs.YtoeobcmmafncmaaGreatDoor.inP a:=fun h=>by obtain ⟨h1,h2⟩:=validB_rng h;exact ⟨by omega,h2⟩
 exact ⟨⟨k h1,k h2⟩,⟨k h3,k h4⟩,k h5,k h6⟩
theorem more_chg (key r0 r1 r2:Int) (kb rb:Nat) (W:World) (hK:Blk W kb 3 #[.int .i64 key]) (hR:Blk W rb 27 #[.int .i64 r0,.int .i64 r1,.int .i64 r2]) :
  ChgAt 81 #[.pointer (some ⟨rb,0,none⟩),.pointer (some ⟨kb,0,none⟩)] W Ltr.inP (moreU key r0 r1 r2):=by
 intro k y s Wc hb hs hG c
 obtain ⟨⟨h1,h2⟩,⟨h3,h4⟩,h5,h6⟩:=hG
 have hKc:=hK.below hb hK.lt
 have hRc:=hR.below hb hR.lt
 match k with
 | 0=>exact (more1 Wc 0 0 kb rb s 0 key r0 y.a0 y.b0 (.inl ⟨rfl,rfl⟩) h1 h2 (hKc.cell 0) (hRc.cell 0) (c.cell 0) (c.cell 1) (c.frozen 0) (c.frozen 1) hKc.lt hRc.lt c.lt).mono fun e w' ⟨he,w1,b,hw⟩=>⟨he,by rw [hw];exact grownBy_set (grownBy_below_set b _ _ _) _ _,by rw [hw];exact ((c.below b c.lt).set_ 0 _).set_ 1 _⟩
 | 1=>exact (more1 Wc 1 1 kb rb s 2 key r1 y.a1 y.b1 (.inr (.inl ⟨rfl,rfl⟩)) h3 h4 (hKc.cell 0) (hRc.cell 1) (c.cell 2) (c.cell 3) (c.frozen 2) (c.frozen 3) hKc.lt hRc.lt c.lt).mono fun e w' ⟨he,w1,b,hw⟩=>⟨he,by rw [hw];exact grownBy_set (grownBy_below_set b _ _ _) _ _,by rw [hw];exact ((c.below b c.lt).set_ 2 _).set_ 3 _⟩
 | 2=>exact (more1 Wc 2 2 kb rb s 4 key r2 y.a2 y.b2 (.inr (.inr ⟨rfl,rfl⟩)) h5 h6 (hKc.cell 0) (hRc.cell 2) (c.cell 4) (c.cell 5) (c.frozen 4) (c.frozen 5) hKc.lt hRc.lt c.lt).mono fun e w' ⟨he,w1,b,hw⟩=>⟨he,by rw [hw];exact grownBy_set (grownBy_below_set b _ _ _) _ _,by rw [hw];exact ((c.below b c.lt).set_ 4 _).set_ 5 _⟩
theorem more_any (key r0 r1 r2:Int) (w:World) :
  Calls Tryz.prog 46 #[.int .i64 key,.agg #[.int .i64 r0,.int .i64 r1,.int .i64 r2]] w fun r w' =>
   r = .returned (.func (.func 81) #[] #[.pointer (some ⟨w.heap.size+1,0,none⟩),.pointer (some ⟨w.heap.size,0,none⟩)])∧w'=(w.alloc (.cells #[.int .i64 key] 3)).alloc (.cells #[.int .i64 r0,.int .i64 r1,.int .i64 r2] 27):=by
 have hmf:∀ (fn:Fn) (first cap:Array Value) (w:World),(Instr.makeFunc fn first cap).run Tryz.prog w = .ok (.func fn first cap) w:=fun _ _ _ _=>rfl
 go_enter Tryz.func46,Tryz.ntmps46
 go_wp2
 go_ret
 exact ⟨rfl,rfl⟩
def stripL (n:Int) (x:Ltr):Ltr:=stripU n (stripU n (stripU n x 0) 1) 2
def stripV (n:Int) (x:Ltr):Ltr:=if secB n=true then (if x.good=true then stripL n x else zeroL) else zeroL
def stripE (n:Int) (x:Ltr):Int:=if secB n=true then (if x.good=true then 0 else 100) else 110
theorem secB_rng {n:Int} (h:secB n=true):1≤n∧n<1073741789:=of_decide_eq_true h
theorem ret_li {x y:Ltr} {a b:Int} (h:x=y) (h':a=b):Ending.returned (.tuple #[y.agg,.int .i64 b]) = .returned (.tuple #[x.agg,.int .i64 a]):=by rw [h,h']
end Go.Proofs.YtoeobcmmafncmaaGreatDoor

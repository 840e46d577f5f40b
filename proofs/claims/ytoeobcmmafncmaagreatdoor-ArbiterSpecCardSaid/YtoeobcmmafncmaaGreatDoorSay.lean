/- The reference's group: exponent, Pow, Mul, Element. -/
import Derived.Test.YtoeobcmmafncmaaGreatDoorSas
import Derived.Test.YtoeobcmmafncmaaGreatDoorSak
import Derived.Test.YtoeobcmmafncmaaGreatDoorSar
set_option maxRecDepth 1000000
set_option maxHeartbeats 16000000
namespace Go.Proofs.YtoeobcmmafncmaaGreatDoor
open Go.RowKit
theorem tmod_to_emod (n:Int):n % 1073741789=if n.tmod 1073741789<0 then n.tmod 1073741789+1073741789 else n.tmod 1073741789:=by
 have h1:=tmod_q n
 have h2:=tmod_emod n
 generalize n.tmod 1073741789=t at *
 split <;> omega
theorem ref_exponent (n:Int) (W:World):Calls Tryz.prog 138 #[.int .i64 n] W (Same (.int .i64 (n % 1073741789)) W):=by
 have h0:=tmod_to_emod n
 have h1:=tmod_q n
 obtain ⟨v,hv⟩:∃ v,v=n % 1073741789:=⟨_,rfl⟩
 rw [←hv] at h0 ⊢
 clear hv
 go_enter Tryz.func138,Tryz.ntmps138
 by_cases hn:n.tmod 1073741789<0
 ·rw [if_pos hn] at h0
  have Hv:=Lib.hid h0
  have hw:IntKind.i64.wrap (n.tmod 1073741789+1073741789)=n.tmod 1073741789+1073741789:=by rw [IntKind.wrap_i64];omega
  clear h0 h1
  go_wp2_with fail
  go_ret
  exact ⟨by rw [Hv.out];rfl,rfl⟩
 ·rw [if_neg hn] at h0
  have Hv:=Lib.hid h0
  clear h0 h1
  go_wp2_with fail
  go_ret
  exact ⟨by rw [Hv.out];rfl,rfl⟩
theorem ref_pow (a n:Int) (W:World):Calls Tryz.prog 110 #[.int .i64 a,.int .i64 n] W (Same (.tuple #[.int .i64 (powV a n),.int .i64 (powE a)]) W):=by
 have q:=ref_valid a W
 have q2:=ref_exponent n W
 obtain ⟨v,hv⟩:∃ v,v=powV a n:=⟨_,rfl⟩
 obtain ⟨e,he⟩:∃ e,e=powE a:=⟨_,rfl⟩
 rw [←hv,←he]
 cases hb:validB a
 ·have hx:Hid (v=0∧e=90):=Lib.hid ⟨by rw [hv];unfold powV;rw [hb];rfl,by rw [he];unfold powE;rw [hb];rfl⟩
  rw [hb] at q
  clear hv he hb
  go_enter Tryz.func110,Tryz.ntmps110
  go_wp2_with fail
  (with_reducible refine q.mono ?_)
  rintro r w' ⟨rfl,rfl⟩
  go_wp2_with fail
  go_ret2
  exact ⟨ret_ii hx.out.1.symm hx.out.2.symm,rfl⟩
 ·have hr:=validB_rng hb
  have hx:Hid (v=((powP a.toNat (expN n):Nat):Int)∧e=0):=Lib.hid ⟨by rw [hv];unfold powV;rw [if_pos hb],by rw [he];unfold powE;rw [if_pos hb]⟩
  have hn:((expN n:Nat):Int)=n % 1073741789:=by unfold expN;omega
  have q3:=ref_power a.toNat (expN n) W (by omega) (by have:=expN_lt n;omega)
  rw [show ((a.toNat:Nat):Int)=a by omega,hn] at q3
  rw [hb] at q
  generalize ((powP a.toNat (expN n):Nat):Int)=u at *
  generalize n % 1073741789=m at *
  clear hv he hb hn hr
  go_enter Tryz.func110,Tryz.ntmps110
  go_wp2_with fail
  (with_reducible refine q.mono ?_)
  rintro r w' ⟨rfl,rfl⟩
  go_wp2_with fail
  (with_reducible refine q2.mono ?_)
  rintro r w' ⟨rfl,rfl⟩
  go_wp2_with fail
  (with_reducible refine q3.mono ?_)
  rintro r w' ⟨rfl,rfl⟩
  go_wp2_with fail
  go_ret2
  exact ⟨ret_ii hx.out.1.symm hx.out.2.symm,rfl⟩
theorem ref_mul (a b:Int) (W:World):Calls Tryz.prog 136 #[.int .i64 a,.int .i64 b] W (Same (.tuple #[.int .i64 (mulV a b),.int .i64 (mulE a b)]) W):=by
 have q1:=ref_valid a W
 have q2:=ref_valid b W
 obtain ⟨v,hv⟩:∃ v,v=mulV a b:=⟨_,rfl⟩
 obtain ⟨e,he⟩:∃ e,e=mulE a b:=⟨_,rfl⟩
 rw [←hv,←he]
 cases ha:validB a
 ·have hx:Hid (v=0∧e=90):=Lib.hid ⟨by rw [hv];exact (mulV_no1 (by rw [ha];simp)).1,by rw [he];exact (mulV_no1 (by rw [ha];simp)).2⟩
  rw [ha] at q1
  clear hv he ha
  go_enter Tryz.func136,Tryz.ntmps136
  go_wp2_with fail
  (with_reducible refine q1.mono ?_)
  rintro r w' ⟨rfl,rfl⟩
  go_wp2_with fail
  go_ret2
  exact ⟨ret_ii hx.out.1.symm hx.out.2.symm,rfl⟩
 cases hb:validB b
 ·have hx:Hid (v=0∧e=90):=Lib.hid ⟨by rw [hv];exact (mulV_no2 (by rw [hb];simp)).1,by rw [he];exact (mulV_no2 (by rw [hb];simp)).2⟩
  rw [ha] at q1
  rw [hb] at q2
  clear hv he ha hb
  go_enter Tryz.func136,Tryz.ntmps136
  go_wp2_with fail
  (with_reducible refine q1.mono ?_)
  rintro r w' ⟨rfl,rfl⟩
  go_wp2_with fail
  (with_reducible refine q2.mono ?_)
  rintro r w' ⟨rfl,rfl⟩
  go_wp2_with fail
  go_ret2
  exact ⟨ret_ii hx.out.1.symm hx.out.2.symm,rfl⟩
 ·have r1:=validB_rng ha
  have r2:=validB_rng hb
  have hm:=mul_rng (a:=a) (b:=b) (by omega) (by omega) (by omega) (by omega)
  have hx:Hid (v=a*b % 2147483579∧e=0):=Lib.hid ⟨by rw [hv];exact (mulV_yes ha hb).1,by rw [he];exact (mulV_yes ha hb).2⟩
  have hw:IntKind.i64.wrap (a*b)=a*b:=by rw [IntKind.wrap_i64];omega
  have ht:(a*b).tmod 2147483579=a*b % 2147483579:=Int.tmod_eq_emod_of_nonneg hm.1
  have hw2:IntKind.i64.wrap (a*b % 2147483579)=a*b % 2147483579:=by rw [IntKind.wrap_i64];omega
  rw [ha] at q1
  rw [hb] at q2
  clear hv he ha hb r1 r2
  go_enter Tryz.func136,Tryz.ntmps136
  go_wp2_with fail
  (with_reducible refine q1.mono ?_)
  rintro r w' ⟨rfl,rfl⟩
  go_wp2_with fail
  (with_reducible refine q2.mono ?_)
  rintro r w' ⟨rfl,rfl⟩
  go_wp2_with fail
  go_ret2
  exact ⟨ret_ii hx.out.1.symm hx.out.2.symm,rfl⟩
theorem ref_element (n:Int) (W:World):Calls Tryz.prog 70 #[.int .i64 n] W (Same (.tuple #[.int .i64 (elemV n),.int .i64 (elemE n)]) W):=by
 have q:=ref_valid n W
 obtain ⟨v,hv⟩:∃ v,v=elemV n:=⟨_,rfl⟩
 obtain ⟨e,he⟩:∃ e,e=elemE n:=⟨_,rfl⟩
 rw [←hv,←he]
 unfold elemV at hv
 unfold elemE at he
 by_cases h1:n<1
 ·rw [if_neg (by omega)] at hv he
  have hx:=Lib.hid (And.intro hv he)
  clear hv he
  go_enter Tryz.func70,Tryz.ntmps70
  go_wp2_with fail
  go_ret2
  exact ⟨ret_ii hx.out.1.symm hx.out.2.symm,rfl⟩
 by_cases h2:(1073741789:Int)<n
 ·rw [if_neg (by omega)] at hv he
  have hx:=Lib.hid (And.intro hv he)
  clear hv he
  go_enter Tryz.func70,Tryz.ntmps70
  go_wp2_with fail
  go_ret2
  exact ⟨ret_ii hx.out.1.symm hx.out.2.symm,rfl⟩
 rw [if_pos (by omega)] at hv he
 cases hb:validB n
 ·rw [hb,if_neg (by simp)] at hv
  have hx:=Lib.hid (And.intro hv he)
  have hw:IntKind.i64.wrap (2147483579 - n)=2147483579 - n:=by rw [IntKind.wrap_i64];omega
  rw [hb] at q
  clear hv he hb
  go_enter Tryz.func70,Tryz.ntmps70
  go_wp2_with fail
  (with_reducible refine q.mono ?_)
  rintro r w' ⟨rfl,rfl⟩
  go_wp2_with fail
  go_ret2
  exact ⟨ret_ii hx.out.1.symm hx.out.2.symm,rfl⟩
 ·rw [hb,if_pos rfl] at hv
  have hx:=Lib.hid (And.intro hv he)
  rw [hb] at q
  clear hv he hb
  go_enter Tryz.func70,Tryz.ntmps70
  go_wp2_with fail
  (with_reducible refine q.mono ?_)
  rintro r w' ⟨rfl,rfl⟩
  go_wp2_with fail
  go_ret2
  exact ⟨ret_ii hx.out.1.symm hx.out.2.symm,rfl⟩
theorem ref_pw (a n:Int) (W:World):Calls Tryz.prog 71 #[.int .i64 a,.int .i64 n] W (Same (.int .i64 (powV a n)) W):=by
 have q:=ref_pow a n W
 generalize powV a n=v at *
 generalize powE a=e at *
 go_enter Tryz.func71,Tryz.ntmps71
 go_wp2_with fail
 (with_reducible refine q.mono ?_)
 rintro r w' ⟨rfl,rfl⟩
 go_wp2_with fail
 go_ret
 exact ⟨rfl,rfl⟩
theorem ref_times (a b:Int) (W:World) (ha:inP a) (hb:inP b):Calls Tryz.prog 72 #[.int .i64 a,.int .i64 b] W (Same (.int .i64 (a*b % 2147483579)) W):=by
 obtain ⟨a0,a1⟩:=ha
 obtain ⟨b0,b1⟩:=hb
 have hm:=mul_rng (a:=a) (b:=b) a0 b0 a1 b1
 have hw:IntKind.i64.wrap (a*b)=a*b:=by rw [IntKind.wrap_i64];omega
 have ht:(a*b).tmod 2147483579=a*b % 2147483579:=Int.tmod_eq_emod_of_nonneg hm.1
 have hw2:IntKind.i64.wrap (a*b % 2147483579)=a*b % 2147483579:=by rw [IntKind.wrap_i64];omega
 go_enter Tryz.func72,Tryz.ntmps72
 go_wp2_with fail
 go_ret
 exact ⟨rfl,rfl⟩
theorem ref_formed (A:Option Addr) (n c:Nat) (l:List Ltr) (W:World) (hA:Rd W W.heap.size 6 A n (l.flatMap Ltr.cl)) (hn:n≤9223372036854775807) :
  Calls Tryz.prog 68 #[.slice A n c] W (Ret (.bool (l.all Ltr.good)) W):=by
 obtain rfl:l.length=n:=Ltrs_length hA
 obtain ⟨v,hv⟩:∃ v,v=l.all Ltr.good:=⟨_,rfl⟩
 rw [←hv]
 have Hv:=Lib.hid hv
 clear hv
 go_enter Tryz.func68,Tryz.ntmps68
 go_wp2_with fail
 go_loopw [3] (fun i wr=>∃ k:Nat,k≤l.length∧i = .int .i64 k∧Below W.heap.size W wr∧Hid (∀ y∈l.take k,y.good=true)) (fun i _=>l.length - (intOf i).toNat)
 case atStart=>exact ⟨0,Nat.zero_le _,rfl,bRefl W,Lib.hid (by simp)⟩
 case round =>
  obtain ⟨k,hkn,rfl,hb,hp⟩:=hrel
  by_cases hlt:k<l.length
  ·obtain ⟨x,hx⟩:∃ x,Hid (l[k]?=some x):=⟨_,Lib.hid (List.getElem?_eq_getElem hlt)⟩
   obtain ⟨b,off,hAb,hbb,o0,o1,o2,o3,o4,o5⟩:=Ltr_at (hA.below hb) hlt hx.out
   subst hAb
   have q:=ref_check x wr
   have i0:(0:Int)≤(k:Int):=by omega
   have i1:(k:Int)<(l.length:Int):=by omega
   by_cases hg:x.good=true
   ·have he:x.err=0:=if_pos hg
    rw [he] at q
    have hp':Hid (∀ z∈l.take (k+1),z.good=true):=by
     intro z hz
     obtain ⟨hk,rfl⟩:=List.getElem?_eq_some_iff.1 hx.out
     rw [List.take_succ_eq_append_getElem hk] at hz
     rcases List.mem_append.1 hz with hz | hz
     ·exact hp.out z hz
     ·obtain rfl:z=l[k]:=by simpa using hz
      exact hg
    clear he hg
    go_wp2_with fail
    (with_reducible refine q.mono ?_)
    rintro e w' ⟨rfl,b'⟩
    go_wp2_with fail
    exact ⟨⟨k+1,by omega,by go_num,bCall hb b',hp'⟩,by simp [intOf];omega⟩
   ·have he:x.err=100:=if_neg hg
    rw [he] at q
    have hx0:Hid (v=false):=by
     show _=_
     rw [Hv.out]
     exact List.all_eq_false.2 ⟨x,List.mem_of_getElem? hx.out,hg⟩
    clear he hg
    go_wp2_with fail
    (with_reducible refine q.mono ?_)
    rintro e w' ⟨rfl,b'⟩
    go_wp2_with fail
    go_ret
    exact ⟨ret_bool hx0.out.symm,bCall hb b'⟩
  ·have hx0:Hid (v=true):=by
    show _=_
    rw [Hv.out]
    exact List.all_eq_true.2 (by have:=hp.out;rw [List.take_of_length_le (by omega)] at this;exact this)
   go_wp2_with fail
   go_ret
   exact ⟨ret_bool hx0.out.symm,hb⟩
def nAt (n0 n1 n2:Int) (k:Fin 3):Int:=match k with | 0=>n0 | 1=>n1 | 2=>n2
theorem Ltr.cells_six {w:World} {b:Nat} {t:TypeId} {y:Ltr} (h:Blk w b t y.cells):Blk w b t #[.int .i64 y.a0,.int .i64 y.b0,.int .i64 y.a1,.int .i64 y.b1,.int .i64 y.a2,.int .i64 y.b2]:=h
def setL (y:Ltr) (k:Fin 3) (a b:Int):Ltr:=match k with | 0=>⟨a,b,y.a1,y.b1,y.a2,y.b2⟩ | 1=>⟨y.a0,y.b0,a,b,y.a2,y.b2⟩ | 2=>⟨y.a0,y.b0,y.a1,y.b1,a,b⟩
theorem setL_at (y:Ltr) (k j:Fin 3) (a b:Int):(setL y k a b).aAt j=(if j=k then a else y.aAt j)∧(setL y k a b).bAt j=(if j=k then b else y.bAt j):=by
 match k,j with
 | 0,0=>exact ⟨rfl,rfl⟩
 | 0,1=>exact ⟨rfl,rfl⟩
 | 0,2=>exact ⟨rfl,rfl⟩
 | 1,0=>exact ⟨rfl,rfl⟩
 | 1,1=>exact ⟨rfl,rfl⟩
 | 1,2=>exact ⟨rfl,rfl⟩
 | 2,0=>exact ⟨rfl,rfl⟩
 | 2,1=>exact ⟨rfl,rfl⟩
 | 2,2=>exact ⟨rfl,rfl⟩
theorem Blk.setL0 {w:World} {b:Nat} {t:TypeId} {y:Ltr} (h:Blk w b t y.cells) (u v:Int):Blk ((w.setCell ⟨b,0,none⟩ (.int .i64 u)).setCell ⟨b,1,none⟩ (.int .i64 v)) b t (setL y 0 u v).cells:=by have:=(h.set_ 0 (.int .i64 u)).set_ 1 (.int .i64 v);simpa [Ltr.cells,setL] using this
theorem Blk.setL1 {w:World} {b:Nat} {t:TypeId} {y:Ltr} (h:Blk w b t y.cells) (u v:Int):Blk ((w.setCell ⟨b,2,none⟩ (.int .i64 u)).setCell ⟨b,3,none⟩ (.int .i64 v)) b t (setL y 1 u v).cells:=by have:=(h.set_ 2 (.int .i64 u)).set_ 3 (.int .i64 v);simpa [Ltr.cells,setL] using this
theorem Blk.setL2 {w:World} {b:Nat} {t:TypeId} {y:Ltr} (h:Blk w b t y.cells) (u v:Int):Blk ((w.setCell ⟨b,4,none⟩ (.int .i64 u)).setCell ⟨b,5,none⟩ (.int .i64 v)) b t (setL y 2 u v).cells:=by have:=(h.set_ 4 (.int .i64 u)).set_ 5 (.int .i64 v);simpa [Ltr.cells,setL] using this
theorem Ltr.ext3 {x y:Ltr} (h:∀ j,x.aAt j=y.aAt j∧x.bAt j=y.bAt j):x=y:=by
 have h0:=h 0
 have h1:=h 1
 have h2:=h 2
 cases x;cases y
 simp only [Ltr.aAt,Ltr.bAt] at h0 h1 h2
 simp only [Ltr.mk.injEq]
 exact ⟨h0.1,h0.2,h1.1,h1.2,h2.1,h2.2⟩
theorem six_of {w:World} {b:Nat} {t:TypeId} {y:Ltr} (h:Blk w b t y.cells) :
  w.cell? ⟨b,0,none⟩=some (.int .i64 y.a0)∧w.cell? ⟨b,1,none⟩=some (.int .i64 y.b0)∧w.cell? ⟨b,2,none⟩=some (.int .i64 y.a1)∧w.cell? ⟨b,3,none⟩=some (.int .i64 y.b1)∧w.cell? ⟨b,4,none⟩=some (.int .i64 y.a2)∧w.cell? ⟨b,5,none⟩=some (.int .i64 y.b2):=(Ltr.cells_six h).six
end Go.Proofs.YtoeobcmmafncmaaGreatDoor

/- The reference's digest: rotations, words. -/
import Derived.Test.YtoeobcmmafncmaaGreatDoorSab
import Derived.Test.YtoeobcmmafncmaaGreatDoorSap
set_option maxRecDepth 1000000
set_option maxHeartbeats 16000000
namespace Go.Proofs.YtoeobcmmafncmaaGreatDoor
open Go.RowKit
theorem or_shift2 (v a m d:Nat) (h0:v<4294967296) (hm:2 ^ (32 - a)=m) (hd:2 ^ a=d):bits BinOp.or IntKind.u32 ((v:Int) / (d:Nat)) ((v:Int) * (m:Nat) % 4294967296)=((rotN v a:Nat):Int):=by
 have e1:((v:Int) * (m:Nat) % 4294967296)=((v*m % 4294967296:Nat):Int):=by simp
 have e2:((v:Int) / (d:Nat))=((v / d:Nat):Int):=by simp
 rw [e1,e2,u32_or_nat _ _ (Nat.lt_of_le_of_lt (Nat.div_le_self _ _) h0) (Nat.mod_lt _ (by decide))]
 unfold rotN
 rw [hm,hd,Nat.or_comm]
theorem ror_7 (v:Nat) (W:World) (h1:v<4294967296):Calls Tryz.prog 181 #[.int .u32 v,.int .i64 7] W (Ret (.int .u32 (rotN v 7:Nat)) W):=by
 have ho:=Lib.hid (or_shift2 v 7 33554432 128 h1 (by decide) (by decide))
 go_enter Tryz.func181,Tryz.ntmps181
 go_upto_region 1 with fail
 go_quiet (fail)
 go_wp2_with fail
 go_ret
 exact ⟨congrArg (fun n=>Ending.returned (.int .u32 n)) ho.out,bDrN (bRefl W) nq⟩
theorem ror_18 (v:Nat) (W:World) (h1:v<4294967296):Calls Tryz.prog 181 #[.int .u32 v,.int .i64 18] W (Ret (.int .u32 (rotN v 18:Nat)) W):=by
 have ho:=Lib.hid (or_shift2 v 18 16384 262144 h1 (by decide) (by decide))
 go_enter Tryz.func181,Tryz.ntmps181
 go_upto_region 1 with fail
 go_quiet (fail)
 go_wp2_with fail
 go_ret
 exact ⟨congrArg (fun n=>Ending.returned (.int .u32 n)) ho.out,bDrN (bRefl W) nq⟩
theorem ror_17 (v:Nat) (W:World) (h1:v<4294967296):Calls Tryz.prog 181 #[.int .u32 v,.int .i64 17] W (Ret (.int .u32 (rotN v 17:Nat)) W):=by
 have ho:=Lib.hid (or_shift2 v 17 32768 131072 h1 (by decide) (by decide))
 go_enter Tryz.func181,Tryz.ntmps181
 go_upto_region 1 with fail
 go_quiet (fail)
 go_wp2_with fail
 go_ret
 exact ⟨congrArg (fun n=>Ending.returned (.int .u32 n)) ho.out,bDrN (bRefl W) nq⟩
theorem ror_19 (v:Nat) (W:World) (h1:v<4294967296):Calls Tryz.prog 181 #[.int .u32 v,.int .i64 19] W (Ret (.int .u32 (rotN v 19:Nat)) W):=by
 have ho:=Lib.hid (or_shift2 v 19 8192 524288 h1 (by decide) (by decide))
 go_enter Tryz.func181,Tryz.ntmps181
 go_upto_region 1 with fail
 go_quiet (fail)
 go_wp2_with fail
 go_ret
 exact ⟨congrArg (fun n=>Ending.returned (.int .u32 n)) ho.out,bDrN (bRefl W) nq⟩
theorem ror_6 (v:Nat) (W:World) (h1:v<4294967296):Calls Tryz.prog 181 #[.int .u32 v,.int .i64 6] W (Ret (.int .u32 (rotN v 6:Nat)) W):=by
 have ho:=Lib.hid (or_shift2 v 6 67108864 64 h1 (by decide) (by decide))
 go_enter Tryz.func181,Tryz.ntmps181
 go_upto_region 1 with fail
 go_quiet (fail)
 go_wp2_with fail
 go_ret
 exact ⟨congrArg (fun n=>Ending.returned (.int .u32 n)) ho.out,bDrN (bRefl W) nq⟩
theorem ror_11 (v:Nat) (W:World) (h1:v<4294967296):Calls Tryz.prog 181 #[.int .u32 v,.int .i64 11] W (Ret (.int .u32 (rotN v 11:Nat)) W):=by
 have ho:=Lib.hid (or_shift2 v 11 2097152 2048 h1 (by decide) (by decide))
 go_enter Tryz.func181,Tryz.ntmps181
 go_upto_region 1 with fail
 go_quiet (fail)
 go_wp2_with fail
 go_ret
 exact ⟨congrArg (fun n=>Ending.returned (.int .u32 n)) ho.out,bDrN (bRefl W) nq⟩
theorem ror_25 (v:Nat) (W:World) (h1:v<4294967296):Calls Tryz.prog 181 #[.int .u32 v,.int .i64 25] W (Ret (.int .u32 (rotN v 25:Nat)) W):=by
 have ho:=Lib.hid (or_shift2 v 25 128 33554432 h1 (by decide) (by decide))
 go_enter Tryz.func181,Tryz.ntmps181
 go_upto_region 1 with fail
 go_quiet (fail)
 go_wp2_with fail
 go_ret
 exact ⟨congrArg (fun n=>Ending.returned (.int .u32 n)) ho.out,bDrN (bRefl W) nq⟩
theorem ror_2 (v:Nat) (W:World) (h1:v<4294967296):Calls Tryz.prog 181 #[.int .u32 v,.int .i64 2] W (Ret (.int .u32 (rotN v 2:Nat)) W):=by
 have ho:=Lib.hid (or_shift2 v 2 1073741824 4 h1 (by decide) (by decide))
 go_enter Tryz.func181,Tryz.ntmps181
 go_upto_region 1 with fail
 go_quiet (fail)
 go_wp2_with fail
 go_ret
 exact ⟨congrArg (fun n=>Ending.returned (.int .u32 n)) ho.out,bDrN (bRefl W) nq⟩
theorem ror_13 (v:Nat) (W:World) (h1:v<4294967296):Calls Tryz.prog 181 #[.int .u32 v,.int .i64 13] W (Ret (.int .u32 (rotN v 13:Nat)) W):=by
 have ho:=Lib.hid (or_shift2 v 13 524288 8192 h1 (by decide) (by decide))
 go_enter Tryz.func181,Tryz.ntmps181
 go_upto_region 1 with fail
 go_quiet (fail)
 go_wp2_with fail
 go_ret
 exact ⟨congrArg (fun n=>Ending.returned (.int .u32 n)) ho.out,bDrN (bRefl W) nq⟩
theorem ror_22 (v:Nat) (W:World) (h1:v<4294967296):Calls Tryz.prog 181 #[.int .u32 v,.int .i64 22] W (Ret (.int .u32 (rotN v 22:Nat)) W):=by
 have ho:=Lib.hid (or_shift2 v 22 1024 4194304 h1 (by decide) (by decide))
 go_enter Tryz.func181,Tryz.ntmps181
 go_upto_region 1 with fail
 go_quiet (fail)
 go_wp2_with fail
 go_ret
 exact ⟨congrArg (fun n=>Ending.returned (.int .u32 n)) ho.out,bDrN (bRefl W) nq⟩
theorem word_int (a b c d:Nat) (ha:a<256) (hb:b<256) (hc:c<256) (hd:d<256) :
  bits BinOp.or IntKind.u32 (bits BinOp.or IntKind.u32 (bits BinOp.or IntKind.u32 ((a:Int)*16777216) ((b:Int)*65536)) ((c:Int)*256)) (d:Int)=((wordN a b c d:Nat):Int):=by
 have e1:((a:Int)*16777216)=((a*16777216:Nat):Int):=by omega
 have e2:((b:Int)*65536)=((b*65536:Nat):Int):=by omega
 have e3:((c:Int)*256)=((c*256:Nat):Int):=by omega
 have s:∀ (n m i:Nat),m<2 ^ i→n*2 ^ i ||| m=n*2 ^ i+m:=fun n m i h=>by
  have:=Nat.shiftLeft_add_eq_or_of_lt h n
  rw [Nat.shiftLeft_eq] at this
  exact this.symm
 have o1:a*16777216 ||| b*65536=(a*256+b)*65536:=by
  have:=s a (b*65536) 24 (by omega)
  rw [show (2:Nat) ^ 24=16777216 from rfl] at this
  rw [this]
  omega
 have o2:(a*256+b)*65536 ||| c*256=((a*256+b)*256+c)*256:=by
  have:=s (a*256+b) (c*256) 16 (by omega)
  rw [show (2:Nat) ^ 16=65536 from rfl] at this
  rw [this]
  omega
 have o3:((a*256+b)*256+c)*256 ||| d=wordN a b c d:=by
  have:=s ((a*256+b)*256+c) d 8 (by omega)
  rw [show (2:Nat) ^ 8=256 from rfl] at this
  rw [this]
  unfold wordN
  omega
 rw [e1,e2,e3,u32_or_nat _ _ (by omega) (by omega),o1,u32_or_nat _ _ (by omega) (by omega),o2,u32_or_nat _ _ (by omega) (by omega),o3]
theorem ref_word (b off c:Nat) (x0 x1 x2 x3:Nat) (W:World) (h0:W.cell? ⟨b,off,none⟩=some (.int .u8 x0)) (h1:W.cell? ⟨b,off+1,none⟩=some (.int .u8 x1)) (h2:W.cell? ⟨b,off+2,none⟩=some (.int .u8 x2)) (h3:W.cell? ⟨b,off+3,none⟩=some (.int .u8 x3))
  (l0:x0<256) (l1:x1<256) (l2:x2<256) (l3:x3<256):Calls Tryz.prog 180 #[.slice (some ⟨b,off,none⟩) 4 c] W (Ret (.int .u32 (wordN x0 x1 x2 x3:Nat)) W):=by
 have ho:=Lib.hid (word_int x0 x1 x2 x3 l0 l1 l2 l3)
 have e0:((x0:Int)*16777216) % 4294967296=(x0:Int)*16777216:=by omega
 have e1:((x1:Int)*65536) % 4294967296=(x1:Int)*65536:=by omega
 have e2:((x2:Int)*256) % 4294967296=(x2:Int)*256:=by omega
 have c0:(x0:Int) % 4294967296=x0:=by omega
 have c1:(x1:Int) % 4294967296=x1:=by omega
 have c2:(x2:Int) % 4294967296=x2:=by omega
 have c3:(x3:Int) % 4294967296=x3:=by omega
 clear l0 l1 l2 l3
 go_enter Tryz.func180,Tryz.ntmps180
 go_upto_region 1 with fail
 go_quiet (fail)
 go_wp2_with fail
 go_ret
 exact ⟨congrArg (fun n=>Ending.returned (.int .u32 n)) ho.out,bDrN (bRefl W) nq⟩
theorem ref_power (a0 n0:Nat) (W:World) (ha:a0<2147483579) (hn:n0<2147483648) :
  Calls Tryz.prog 106 #[.int .i64 (a0:Nat),.int .i64 (n0:Nat)] W (Same (.int .i64 (powP a0 n0:Nat)) W):=by
 go_enter Tryz.func106,Tryz.ntmps106
 go_wp2
 go_loop [0,1,5] (fun va vn vc=>∃ a n c:Nat,va = .int .i64 (a:Nat)∧vn = .int .i64 (n:Nat)∧vc = .int .i64 (c:Nat)∧a<2147483579∧n<2147483648∧c<2147483579∧Hid ((c*a ^ n) % Pn=powP a0 n0)) (fun _ vn _=>(intOf vn).toNat)
 case atStart=>exact ⟨a0,n0,1,rfl,rfl,rfl,ha,hn,by omega,by show _=_;unfold powP;rw [Nat.one_mul]⟩
 case round =>
  obtain ⟨a,n,c,rfl,rfl,rfl,ha,hn,hc,hr⟩:=hrel
  by_cases h0:0<n
  ·have hm1:=mul_rngN ha ha
   have hm2:=mul_rngN hc ha
   have hs:=square_step c a n
   rw [hr.out] at hs
   have e1:((a:Int)*a % 2147483579)=((a*a % 2147483579:Nat):Int):=by simp
   have e2:(n:Int) / 2=((n / 2:Nat):Int):=by simp
   have e3:((c:Int)*a % 2147483579)=((c*a % 2147483579:Nat):Int):=by simp
   have E1:=Lib.hid e1
   have E2:=Lib.hid e2
   have E3:=Lib.hid e3
   have M1:a*a % 2147483579<2147483579:=Nat.mod_lt _ (by decide)
   have M2:c*a % 2147483579<2147483579:=Nat.mod_lt _ (by decide)
   by_cases hb:n % 2=1
   ·rw [if_pos hb] at hs
    have Hs:=Lib.hid hs.symm
    have t:((n:Int) % 2==1)=true:=by rw [beq_iff_eq];omega
    clear e1 e2 e3 hs hb hr
    go_wp2
    rw [E1.out,E2.out,E3.out]
    exact ⟨⟨_,_,_,rfl,rfl,rfl,M1,by omega,M2,Hs⟩,by simp [intOf];omega⟩
   ·rw [if_neg hb] at hs
    have Hs:=Lib.hid hs.symm
    have t:((n:Int) % 2==1)=false:=by rw [beq_eq_false_iff_ne];omega
    clear e1 e2 e3 hs hb hr
    go_wp2
    rw [E1.out,E2.out]
    exact ⟨⟨_,_,_,rfl,rfl,rfl,M1,by omega,hc,Hs⟩,by simp [intOf];omega⟩
  ·obtain rfl:n=0:=by omega
   have hv:Hid (c=powP a0 n0):=by
    show _=_
    have:=hr.out
    rw [Nat.pow_zero,Nat.mul_one,Nat.mod_eq_of_lt (show c<Pn from hc)] at this
    exact this
   go_wp2
   go_ret
   exact ⟨by rw [hv.out];rfl,rfl⟩
theorem ref_valid (x:Int) (W:World):Calls Tryz.prog 67 #[.int .i64 x] W (Same (.bool (validB x)) W):=by
 by_cases h1:1≤x
 ·by_cases h2 : x < 2147483579
  ·obtain ⟨n,rfl⟩:=Int.eq_ofNat_of_zero_le (show 0≤x by omega)
   have hQ:((Qn:Nat):Int)=1073741789:=rfl
   have q:=ref_power n Qn W (by omega) (by decide)
   rw [hQ] at q
   have hv:Hid (validB (n:Int)=(((powP n Qn:Nat):Int)==1)):=by
    show _=_
    unfold validB validN
    rw [decide_eq_true h1,decide_eq_true h2,Int.toNat_natCast,Bool.true_and,Bool.true_and]
    generalize powP n Qn=m
    rw [Bool.eq_iff_iff,beq_iff_eq,beq_iff_eq]
    omega
   generalize powP n Qn=m at *
   clear hQ
   go_enter Tryz.func67,Tryz.ntmps67
   go_wp2_with fail
   (with_reducible refine q.mono ?_)
   rintro e w' ⟨rfl,rfl⟩
   go_wp2_with fail
   go_ret
   exact ⟨ret_bool hv.out.symm,rfl⟩
  ·have hv:=Lib.hid (validB_high (x:=x) (by omega))
   go_enter Tryz.func67,Tryz.ntmps67
   go_wp2_with fail
   go_ret
   exact ⟨ret_bool hv.out.symm,rfl⟩
 ·have hv:=Lib.hid (validB_low (x:=x) (by omega))
  go_enter Tryz.func67,Tryz.ntmps67
  go_wp2_with fail
  go_ret
  exact ⟨ret_bool hv.out.symm,rfl⟩
def fewB (n:Nat):Bool:=decide (n≤8)||(decide (64<n)&&decide (n≤80))
theorem ref_few (n:Nat) (W:World):Calls Tryz.prog 9 #[.int .i64 (n:Nat)] W (Same (.bool (fewB n)) W):=by
 go_enter Tryz.func9,Tryz.ntmps9
 by_cases h1:n≤8
 ·go_wp2_with fail
  go_ret
  refine ⟨ret_bool ?_,rfl⟩
  unfold fewB;rw [decide_eq_true h1];rfl
 ·have e1:decide ((n:Int)≤8)=false:=by rw [decide_eq_false];omega
  by_cases h2:64<n
  ·go_wp2_with fail
   go_ret
   refine ⟨ret_bool ?_,rfl⟩
   unfold fewB;rw [Bool.eq_iff_iff];simp;omega
  ·go_wp2_with fail
   go_ret
   refine ⟨ret_bool ?_,rfl⟩
   unfold fewB;rw [Bool.eq_iff_iff];simp;omega
theorem ref_empty (cs:Array Value) (v:Bool) (W:World) (h:Lens3 (fun i=>cs[i]?) v):Calls Tryz.prog 17 #[.agg cs] W (Ret (.bool v) W):=by
 obtain ⟨A1,n1,c1,A2,n2,c2,A3,n3,c3,h2,h3,h4,l1,l2,l3,he0⟩:=h
 have B0:=Blk.new W 55 cs _ rfl
 have hb:=bAl (bRefl W) (.cells cs 55)
 have k2:=(B0.cell 2).trans h2
 have k3:=(B0.cell 3).trans h3
 have k4:=(B0.cell 4).trans h4
 have he:=Lib.hid he0
 clear h2 h3 h4 he0
 go_enter Tryz.func17,Tryz.ntmps17
 go_wp2_with fail
 go_ret
 refine ⟨ret_bool ?_,hb⟩
 rw [he.out,Bool.eq_iff_iff];simp;omega
theorem ref_check (x:Ltr) (W:World):Calls Tryz.prog 107 #[.agg #[.int .i64 x.a0,.int .i64 x.b0,.int .i64 x.a1,.int .i64 x.b1,.int .i64 x.a2,.int .i64 x.b2]] W (Ret (.int .i64 x.err) W):=by
 have B0:Blk (W.alloc (.cells x.cells 70)) W.heap.size 70 x.cells:=Blk.new W _ _ _ rfl
 have hb:=bAl (bRefl W) (.cells x.cells 70)
 obtain ⟨v,hv⟩:∃ v,v=x.err:=⟨_,rfl⟩
 rw [←hv]
 go_enter Tryz.func107,Tryz.ntmps107
 go_upto_region 1 with fail
 change Code.wp _ _ _ _ (W.alloc (.cells x.cells 70))
 generalize W.alloc (.cells x.cells 70)=w1 at *
 obtain ⟨k0,k1,k2,k3,k4,k5⟩:=Blk.six (v0 := .int .i64 x.a0) (v1 := .int .i64 x.b0) (v2 := .int .i64 x.a1) (v3 := .int .i64 x.b1) (v4 := .int .i64 x.a2) (v5 := .int .i64 x.b2) B0
 have Hv:=Lib.hid hv
 clear hv B0
 go_wp2_with fail
 go_loop [3] (fun i=>∃ m:Int,i = .int .i64 m∧(m=0∧Hid True∨m=1∧Hid (x.goodAt 0=true)∨m=2∧Hid (x.goodAt 0=true∧x.goodAt 1=true)∨m=3∧Hid (x.good=true))) (fun i=>3 - (intOf i).toNat)
 case atStart=>exact ⟨0,rfl,.inl ⟨rfl,Lib.hid trivial⟩⟩
 case round =>
  obtain ⟨m,rfl,(⟨rfl,hq⟩ | ⟨rfl,hq⟩ | ⟨rfl,hq⟩ | ⟨rfl,hq⟩)⟩:=hrel
  ·have q1:=ref_valid x.a0 w1
   have q2:=ref_valid x.b0 w1
   have hga:x.goodAt 0=(validB x.a0&&validB x.b0):=rfl
   cases h1:validB x.a0
   ·have hbad:Hid (v=100):=by show _=_;rw [Hv.out];unfold Ltr.err;rw [x.bad_of 0 (by rw [hga,h1];rfl)];rfl
    rw [h1] at q1
    clear h1 q2 hga
    go_wp2_with fail
    (with_reducible refine q1.mono ?_)
    rintro e w' ⟨rfl,rfl⟩
    go_wp2_with fail
    go_ret
    exact ⟨ret_int hbad.out.symm,hb⟩
   ·cases h2:validB x.b0
    ·have hbad:Hid (v=100):=by show _=_;rw [Hv.out];unfold Ltr.err;rw [x.bad_of 0 (by rw [hga,h1,h2];rfl)];rfl
     rw [h1] at q1
     rw [h2] at q2
     clear h1 h2 hga
     go_wp2_with fail
     (with_reducible refine q1.mono ?_)
     rintro e w' ⟨rfl,rfl⟩
     go_wp2_with fail
     (with_reducible refine q2.mono ?_)
     rintro e w' ⟨rfl,rfl⟩
     go_wp2_with fail
     go_ret
     exact ⟨ret_int hbad.out.symm,hb⟩
    ·have hg:x.goodAt 0=true:=by rw [hga,h1,h2];rfl
     have hn:Hid (x.goodAt 0=true):=hg
     rw [h1] at q1
     rw [h2] at q2
     clear h1 h2 hga hg
     go_wp2_with fail
     (with_reducible refine q1.mono ?_)
     rintro e w' ⟨rfl,rfl⟩
     go_wp2_with fail
     (with_reducible refine q2.mono ?_)
     rintro e w' ⟨rfl,rfl⟩
     go_wp2_with fail
     exact ⟨⟨1,rfl,.inr (.inl ⟨rfl,hn⟩)⟩,by simp [intOf]⟩
  ·have q1:=ref_valid x.a1 w1
   have q2:=ref_valid x.b1 w1
   have hga:x.goodAt 1=(validB x.a1&&validB x.b1):=rfl
   cases h1:validB x.a1
   ·have hbad:Hid (v=100):=by show _=_;rw [Hv.out];unfold Ltr.err;rw [x.bad_of 1 (by rw [hga,h1];rfl)];rfl
    rw [h1] at q1
    clear h1 q2 hga
    go_wp2_with fail
    (with_reducible refine q1.mono ?_)
    rintro e w' ⟨rfl,rfl⟩
    go_wp2_with fail
    go_ret
    exact ⟨ret_int hbad.out.symm,hb⟩
   ·cases h2:validB x.b1
    ·have hbad:Hid (v=100):=by show _=_;rw [Hv.out];unfold Ltr.err;rw [x.bad_of 1 (by rw [hga,h1,h2];rfl)];rfl
     rw [h1] at q1
     rw [h2] at q2
     clear h1 h2 hga
     go_wp2_with fail
     (with_reducible refine q1.mono ?_)
     rintro e w' ⟨rfl,rfl⟩
     go_wp2_with fail
     (with_reducible refine q2.mono ?_)
     rintro e w' ⟨rfl,rfl⟩
     go_wp2_with fail
     go_ret
     exact ⟨ret_int hbad.out.symm,hb⟩
    ·have hg:x.goodAt 1=true:=by rw [hga,h1,h2];rfl
     have hn:Hid (x.goodAt 0=true∧x.goodAt 1=true):=⟨hq.out,hg⟩
     rw [h1] at q1
     rw [h2] at q2
     clear h1 h2 hga hg
     go_wp2_with fail
     (with_reducible refine q1.mono ?_)
     rintro e w' ⟨rfl,rfl⟩
     go_wp2_with fail
     (with_reducible refine q2.mono ?_)
     rintro e w' ⟨rfl,rfl⟩
     go_wp2_with fail
     exact ⟨⟨2,rfl,.inr (.inr (.inl ⟨rfl,hn⟩))⟩,by simp [intOf]⟩
  ·have q1:=ref_valid x.a2 w1
   have q2:=ref_valid x.b2 w1
   have hga:x.goodAt 2=(validB x.a2&&validB x.b2):=rfl
   cases h1:validB x.a2
   ·have hbad:Hid (v=100):=by show _=_;rw [Hv.out];unfold Ltr.err;rw [x.bad_of 2 (by rw [hga,h1];rfl)];rfl
    rw [h1] at q1
    clear h1 q2 hga
    go_wp2_with fail
    (with_reducible refine q1.mono ?_)
    rintro e w' ⟨rfl,rfl⟩
    go_wp2_with fail
    go_ret
    exact ⟨ret_int hbad.out.symm,hb⟩
   ·cases h2:validB x.b2
    ·have hbad:Hid (v=100):=by show _=_;rw [Hv.out];unfold Ltr.err;rw [x.bad_of 2 (by rw [hga,h1,h2];rfl)];rfl
     rw [h1] at q1
     rw [h2] at q2
     clear h1 h2 hga
     go_wp2_with fail
     (with_reducible refine q1.mono ?_)
     rintro e w' ⟨rfl,rfl⟩
     go_wp2_with fail
     (with_reducible refine q2.mono ?_)
     rintro e w' ⟨rfl,rfl⟩
     go_wp2_with fail
     go_ret
     exact ⟨ret_int hbad.out.symm,hb⟩
    ·have hg:x.goodAt 2=true:=by rw [hga,h1,h2];rfl
     have hn:Hid (x.good=true):=by show _=_;rw [x.good_eq,hq.out.1,hq.out.2,hg];rfl
     rw [h1] at q1
     rw [h2] at q2
     clear h1 h2 hga hg
     go_wp2_with fail
     (with_reducible refine q1.mono ?_)
     rintro e w' ⟨rfl,rfl⟩
     go_wp2_with fail
     (with_reducible refine q2.mono ?_)
     rintro e w' ⟨rfl,rfl⟩
     go_wp2_with fail
     exact ⟨⟨3,rfl,.inr (.inr (.inr ⟨rfl,hn⟩))⟩,by simp [intOf]⟩
  ·have hx:Hid (v=0):=by show _=_;rw [Hv.out];unfold Ltr.err;rw [hq.out];rfl
   go_wp2_with fail
   go_ret
   exact ⟨ret_int hx.out.symm,hb⟩
end Go.Proofs.YtoeobcmmafncmaaGreatDoor

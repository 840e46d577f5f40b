/- The reference's digest: rotations, words. -/
import Derived.Test.YtgkpomdegomgiaaGreatDoorMab
import Derived.Test.YtgkpomdegomgiaaGreatDoorMah
import Derived.Test.YtgkpomdegomgiaaGreatDoorMbh
set_option maxRecDepth 1000000
set_option maxHeartbeats 16000000
namespace Go.Proofs.YtgkpomdegomgiaaGreatDoor
open Go.RowKit
theorem or_shift2 (v a m d:Nat) (h0:v<4294967296) (hm:2 ^ (32 - a)=m) (hd:2 ^ a=d):bits BinOp.or IntKind.u32 ((v:Int) / (d:Nat)) ((v:Int) * (m:Nat) % 4294967296)=((rotN v a:Nat):Int):=by
  have e1:((v:Int) * (m:Nat) % 4294967296)=((v*m % 4294967296:Nat):Int):=by simp
  have e2:((v:Int) / (d:Nat))=((v / d:Nat):Int):=by simp
  rw [e1,e2,u32_or_nat _ _ (Nat.lt_of_le_of_lt (Nat.div_le_self _ _) h0) (Nat.mod_lt _ (by decide))]
  unfold rotN
  rw [hm,hd,Nat.or_comm]
theorem ror_7 (v:Nat) (W:World) (h1:v<4294967296):Calls Tryz.prog 167 #[.int .u32 v,.int .i64 7] W (Ret (.int .u32 (rotN v 7:Nat)) W):=by
  have ho:=Lib.hid (or_shift2 v 7 33554432 128 h1 (by decide) (by decide))
  go_enter Tryz.func167,Tryz.ntmps167
  go_upto_region 1 with fail
  go_quiet (fail)
  go_wp2_with fail
  go_ret
  exact ⟨congrArg (fun n=>Ending.returned (.int .u32 n)) ho.out,bDrN (bRefl W) nq⟩
theorem ror_18 (v:Nat) (W:World) (h1:v<4294967296):Calls Tryz.prog 167 #[.int .u32 v,.int .i64 18] W (Ret (.int .u32 (rotN v 18:Nat)) W):=by
  have ho:=Lib.hid (or_shift2 v 18 16384 262144 h1 (by decide) (by decide))
  go_enter Tryz.func167,Tryz.ntmps167
  go_upto_region 1 with fail
  go_quiet (fail)
  go_wp2_with fail
  go_ret
  exact ⟨congrArg (fun n=>Ending.returned (.int .u32 n)) ho.out,bDrN (bRefl W) nq⟩
theorem ror_17 (v:Nat) (W:World) (h1:v<4294967296):Calls Tryz.prog 167 #[.int .u32 v,.int .i64 17] W (Ret (.int .u32 (rotN v 17:Nat)) W):=by
  have ho:=Lib.hid (or_shift2 v 17 32768 131072 h1 (by decide) (by decide))
  go_enter Tryz.func167,Tryz.ntmps167
  go_upto_region 1 with fail
  go_quiet (fail)
  go_wp2_with fail
  go_ret
  exact ⟨congrArg (fun n=>Ending.returned (.int .u32 n)) ho.out,bDrN (bRefl W) nq⟩
theorem ror_19 (v:Nat) (W:World) (h1:v<4294967296):Calls Tryz.prog 167 #[.int .u32 v,.int .i64 19] W (Ret (.int .u32 (rotN v 19:Nat)) W):=by
  have ho:=Lib.hid (or_shift2 v 19 8192 524288 h1 (by decide) (by decide))
  go_enter Tryz.func167,Tryz.ntmps167
  go_upto_region 1 with fail
  go_quiet (fail)
  go_wp2_with fail
  go_ret
  exact ⟨congrArg (fun n=>Ending.returned (.int .u32 n)) ho.out,bDrN (bRefl W) nq⟩
theorem ror_6 (v:Nat) (W:World) (h1:v<4294967296):Calls Tryz.prog 167 #[.int .u32 v,.int .i64 6] W (Ret (.int .u32 (rotN v 6:Nat)) W):=by
  have ho:=Lib.hid (or_shift2 v 6 67108864 64 h1 (by decide) (by decide))
  go_enter Tryz.func167,Tryz.ntmps167
  go_upto_region 1 with fail
  go_quiet (fail)
  go_wp2_with fail
  go_ret
  exact ⟨congrArg (fun n=>Ending.returned (.int .u32 n)) ho.out,bDrN (bRefl W) nq⟩
theorem ror_11 (v:Nat) (W:World) (h1:v<4294967296):Calls Tryz.prog 167 #[.int .u32 v,.int .i64 11] W (Ret (.int .u32 (rotN v 11:Nat)) W):=by
  have ho:=Lib.hid (or_shift2 v 11 2097152 2048 h1 (by decide) (by decide))
  go_enter Tryz.func167,Tryz.ntmps167
  go_upto_region 1 with fail
  go_quiet (fail)
  go_wp2_with fail
  go_ret
  exact ⟨congrArg (fun n=>Ending.returned (.int .u32 n)) ho.out,bDrN (bRefl W) nq⟩
theorem ror_25 (v:Nat) (W:World) (h1:v<4294967296):Calls Tryz.prog 167 #[.int .u32 v,.int .i64 25] W (Ret (.int .u32 (rotN v 25:Nat)) W):=by
  have ho:=Lib.hid (or_shift2 v 25 128 33554432 h1 (by decide) (by decide))
  go_enter Tryz.func167,Tryz.ntmps167
  go_upto_region 1 with fail
  go_quiet (fail)
  go_wp2_with fail
  go_ret
  exact ⟨congrArg (fun n=>Ending.returned (.int .u32 n)) ho.out,bDrN (bRefl W) nq⟩
theorem ror_2 (v:Nat) (W:World) (h1:v<4294967296):Calls Tryz.prog 167 #[.int .u32 v,.int .i64 2] W (Ret (.int .u32 (rotN v 2:Nat)) W):=by
  have ho:=Lib.hid (or_shift2 v 2 1073741824 4 h1 (by decide) (by decide))
  go_enter Tryz.func167,Tryz.ntmps167
  go_upto_region 1 with fail
  go_quiet (fail)
  go_wp2_with fail
  go_ret
  exact ⟨congrArg (fun n=>Ending.returned (.int .u32 n)) ho.out,bDrN (bRefl W) nq⟩
theorem ror_13 (v:Nat) (W:World) (h1:v<4294967296):Calls Tryz.prog 167 #[.int .u32 v,.int .i64 13] W (Ret (.int .u32 (rotN v 13:Nat)) W):=by
  have ho:=Lib.hid (or_shift2 v 13 524288 8192 h1 (by decide) (by decide))
  go_enter Tryz.func167,Tryz.ntmps167
  go_upto_region 1 with fail
  go_quiet (fail)
  go_wp2_with fail
  go_ret
  exact ⟨congrArg (fun n=>Ending.returned (.int .u32 n)) ho.out,bDrN (bRefl W) nq⟩
theorem ror_22 (v:Nat) (W:World) (h1:v<4294967296):Calls Tryz.prog 167 #[.int .u32 v,.int .i64 22] W (Ret (.int .u32 (rotN v 22:Nat)) W):=by
  have ho:=Lib.hid (or_shift2 v 22 1024 4194304 h1 (by decide) (by decide))
  go_enter Tryz.func167,Tryz.ntmps167
  go_upto_region 1 with fail
  go_quiet (fail)
  go_wp2_with fail
  go_ret
  exact ⟨congrArg (fun n=>Ending.returned (.int .u32 n)) ho.out,bDrN (bRefl W) nq⟩
theorem word_int (a b c d:Nat) (ha:a<256) (hb:b<256) (hc:c<256) (hd:d<256) :
    bits BinOp.or IntKind.u32 (bits BinOp.or IntKind.u32 (bits BinOp.or IntKind.u32 ((a:Int)*16777216) ((b:Int)*65536)) ((c:Int)*256)) (d:Int)=((wordN a b c d:Nat):Int):=by
  have e1:((a:Int)*16777216)=((a*16777216:Nat):Int):=by omega
  have e2:((b:Int)*65536)=((b*65536:Nat):Int):=by omega
  have e3:((c:Int)*256)=((c*256:Nat):Int):=by omega
  have s:∀ (n m i:Nat),m<2 ^ i→n*2 ^ i ||| m=n*2 ^ i+m:=fun n m i h=>by
    have:=Nat.shiftLeft_add_eq_or_of_lt h n
    rw [Nat.shiftLeft_eq] at this
    exact this.symm
  have o1:a*16777216 ||| b*65536=(a*256+b)*65536:=by
    have:=s a (b*65536) 24 (by omega)
    rw [show (2:Nat) ^ 24=16777216 from rfl] at this
    rw [this]
    omega
  have o2:(a*256+b)*65536 ||| c*256=((a*256+b)*256+c)*256:=by
    have:=s (a*256+b) (c*256) 16 (by omega)
    rw [show (2:Nat) ^ 16=65536 from rfl] at this
    rw [this]
    omega
  have o3:((a*256+b)*256+c)*256 ||| d=wordN a b c d:=by
    have:=s ((a*256+b)*256+c) d 8 (by omega)
    rw [show (2:Nat) ^ 8=256 from rfl] at this
    rw [this]
    unfold wordN
    omega
  rw [e1,e2,e3,u32_or_nat _ _ (by omega) (by omega),o1,u32_or_nat _ _ (by omega) (by omega),o2,u32_or_nat _ _ (by omega) (by omega),o3]
theorem ref_word (b off c:Nat) (x0 x1 x2 x3:Nat) (W:World) (h0:W.cell? ⟨b,off,none⟩=some (.int .u8 x0)) (h1:W.cell? ⟨b,off+1,none⟩=some (.int .u8 x1)) (h2:W.cell? ⟨b,off+2,none⟩=some (.int .u8 x2)) (h3:W.cell? ⟨b,off+3,none⟩=some (.int .u8 x3))
    (l0:x0<256) (l1:x1<256) (l2:x2<256) (l3:x3<256):Calls Tryz.prog 166 #[.slice (some ⟨b,off,none⟩) 4 c] W (Ret (.int .u32 (wordN x0 x1 x2 x3:Nat)) W):=by
  have ho:=Lib.hid (word_int x0 x1 x2 x3 l0 l1 l2 l3)
  have e0:((x0:Int)*16777216) % 4294967296=(x0:Int)*16777216:=by omega
  have e1:((x1:Int)*65536) % 4294967296=(x1:Int)*65536:=by omega
  have e2:((x2:Int)*256) % 4294967296=(x2:Int)*256:=by omega
  have c0:(x0:Int) % 4294967296=x0:=by omega
  have c1:(x1:Int) % 4294967296=x1:=by omega
  have c2:(x2:Int) % 4294967296=x2:=by omega
  have c3:(x3:Int) % 4294967296=x3:=by omega
  clear l0 l1 l2 l3
  go_enter Tryz.func166,Tryz.ntmps166
  go_upto_region 1 with fail
  go_quiet (fail)
  go_wp2_with fail
  go_ret
  exact ⟨congrArg (fun n=>Ending.returned (.int .u32 n)) ho.out,bDrN (bRefl W) nq⟩
theorem u32s_one (l:List Nat):∀ v∈(u32s l).toArray.toList,v.oneCell'=true:=by
  intro v hv
  simp only [u32s] at hv
  obtain ⟨n,_,rfl⟩:=List.mem_map.1 (by simpa using hv)
  rfl
theorem w64_info:(Tryz.prog.info? 209).map (·.size)=some 64:=by kernel_rfl
theorem ref_numbers (W:World):Calls Tryz.prog 168 #[] W (Ret (.agg (u32s shaK).toArray) W):=by
  go_enter Tryz.func168,Tryz.ntmps168
  go_upto_region 1 with fail
  have hb:=bAl (bRefl W) (.cells (u32s shaK).toArray 209)
  have B:=Blk.new W 209 (u32s shaK).toArray _ rfl
  apply wp_region_lit
  iterate 3 go_step
  refine wpList_storeG (v := .agg (u32s shaK).toArray) (by rfl) (by rfl) (by rfl) (by rfl) (store_newW (by exact w64_info) (by rfl) (u32s_one shaK)) ?_
  simp only [Act.put]
  generalize W.alloc (.cells (u32s shaK).toArray 209)=w1 at *
  go_wp2_with fail
  exact bodyPost_ret (v := .agg (u32s shaK).toArray) (results_cell_row rfl _ _ W.heap.size 209 _ (0,0) _ rfl B Tryz.underlying209 rfl w64_info) rfl ⟨rfl,hb⟩
end Go.Proofs.YtgkpomdegomgiaaGreatDoor

/- The reference's digest: the numbers, a block. -/
import Derived.Test.YtgkpomdegomgiaaGreatDoorMbi
import Derived.Test.YtgkpomdegomgiaaGreatDoorMav
import Derived.Test.YtgkpomdegomgiaaGreatDoorMbf
set_option maxRecDepth 1000000
set_option maxHeartbeats 16000000
namespace Go.Proofs.YtgkpomdegomgiaaGreatDoor
open Go.RowKit
theorem u32s_one (l:List Nat):∀ v∈(u32s l).toArray.toList,v.oneCell'=true:=by
  intro v hv
  simp only [u32s] at hv
  obtain ⟨n,_,rfl⟩:=List.mem_map.1 (by simpa using hv)
  rfl
theorem w64_info:(Tryz.prog.info? 209).map (·.size)=some 64:=by kernel_rfl
theorem ref_numbers (W:World):Calls Tryz.prog 168 #[] W (Ret (.agg (u32s shaK).toArray) W):=by
  go_enter Tryz.func168,Tryz.ntmps168
  go_upto_region 1 with fail
  have hb:=bAl (bRefl W) (.cells (u32s shaK).toArray 209)
  have B:=Blk.new W 209 (u32s shaK).toArray _ rfl
  apply wp_region_lit
  iterate 3 go_step
  refine wpList_storeG (v := .agg (u32s shaK).toArray) (by rfl) (by rfl) (by rfl) (by rfl) (store_newW (by exact w64_info) (by rfl) (u32s_one shaK)) ?_
  simp only [Act.put]
  generalize W.alloc (.cells (u32s shaK).toArray 209)=w1 at *
  go_wp2_with fail
  exact bodyPost_ret (v := .agg (u32s shaK).toArray) (results_cell_row rfl _ _ W.heap.size 209 _ (0,0) _ rfl B Tryz.underlying209 rfl w64_info) rfl ⟨rfl,hb⟩
end Go.Proofs.YtgkpomdegomgiaaGreatDoor

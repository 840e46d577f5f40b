/- codec.Encode: the text lies in a block of its own. -/
import Derived.Test.YtgkpomdegomgiaaGreatDoorMae
import Derived.Test.YtgkpomdegomgiaaGreatDoorMaw
set_option maxRecDepth 1000000
set_option maxHeartbeats 16000000
namespace Go.Proofs.YtgkpomdegomgiaaGreatDoor
open Go.RowKit
def RetO (e:TypeId) (sz n:Nat) (xs:List Value) (w:World) (r:Ending) (w':World):Prop:=∃ v,r = .returned v∧Below w.heap.size w w'∧w'.ownsRow w.heap.size e sz v n xs
theorem encode_listO (A:Option Addr) (n c:Nat) (l:List It) (W:World) (hA:Rd W W.heap.size 4 A n (l.flatMap It.cells)) (hok:∀ x∈l,x.ok) (hn:n≤1000) :
    Calls Tryz.prog 159 #[listV A n c] W (fun r w'=>∃ v,r = .returned (.tuple #[v,.int .i64 0])∧Below W.heap.size W w'∧w'.ownsRow W.heap.size 5 1 v (encN l).length (byts (encN l))):=by
  have BX:=Blk.new W 145 #[.int .i64 3,.int .i64 0,.string ⟨#[]⟩,.slice A n c] _ rfl
  have hb1:=bAl (bRefl W) (.cells #[.int .i64 3,.int .i64 0,.string ⟨#[]⟩,.slice A n c] 145)
  have q:=check_list A n c l _ ((hA.alloc (Nat.le_refl _) (.cells #[.int .i64 3,.int .i64 0,.string ⟨#[]⟩,.slice A n c] 145)).more (by simp)) (by omega)
  unfold listV at q ⊢
  go_enter Tryz.func159,Tryz.ntmps159
  go_wp2_with fail
  with_reducible refine q.mono ?_
  rintro e w2 ⟨rfl,b2⟩
  have hb2:=bCall hb1 b2
  have BX2:=BX.below b2 BX.lt
  clear q hb1 b2 BX
  go_wp2_with fail
  have d0:w2.cell? ⟨W.heap.size,0,none⟩=some (.int .i64 3):=BX2.cell 0
  have d1:w2.cell? ⟨W.heap.size,1,none⟩=some (.int .i64 0):=BX2.cell 1
  have d2:w2.cell? ⟨W.heap.size,2,none⟩=some (.string ⟨#[]⟩):=BX2.cell 2
  have d3:w2.cell? ⟨W.heap.size,3,none⟩=some (.slice A n c):=BX2.cell 3
  have hlt:=BX2.lt
  go_cut [2,3] (fun s2 s3 wc=>∃ v,s2=v∧s3 = .int .i64 0∧Below W.heap.size W wc∧wc.ownsRow W.heap.size 5 1 v (encN l).length (byts (encN l)))
  case first =>
    go_region_with (first
      | (go_at_call 172;refine (writer_any _).mono ?_;rintro e w3 ⟨rfl,b3,hw3⟩;have BX3:=BX2.below ((bDr (bRefl w2)).trans b3) hlt;obtain ⟨f0,f1,f2,f3⟩:=box_cells BX3;have hw4:WrB w3 w2.heap.size:=hw3;have g3:=hw4.list;have hb3:=(bDr hb2).trans (b3.mono hb2.size);have hs3:W.heap.size≤w3.heap.size:=hb3.size;clear b3)
      | (go_at_call 186;refine (write_list A n c _ l _ ((hA.below hb3).more hb3.size) hw4 hok hn).mono ?_;rintro e w4 ⟨v,rfl,hown4,b4⟩;have hb4:=bCall hb3 b4))
    all_goals
      go_wp2_with fail
      go_meet
      exact ⟨_,rfl,rfl,hb4,own_base hown4 hs3⟩
  case rest =>
    obtain ⟨v,rfl,rfl,hb,hv⟩:=hcut
    go_wp2_with fail
    go_ret2
    exact ⟨_,rfl,hb,hv⟩
end Go.Proofs.YtgkpomdegomgiaaGreatDoor

/- frankinglaw49.OfficeHonest, walked. -/
import Derived.Test.YthbibbkbaphpkaaGreatDoorMay
import Derived.Test.YthbibbkbaphpkaaGreatDoorMbb
set_option maxHeartbeats 16000000
set_option maxRecDepth 1000000
namespace Go.Proofs.YthbibbkbaphpkaaGreatDoor
open _root_.Go.Proofs.Tryz
open Go Go.RowKit
theorem Qd {o:Ofc} {n:Nat} {t:Trn} (h:Jd o n t=true):o.chain.length≤16∧(∀ x∈o.chain,x.data.length≤300)∧o.used.length≤40:=by
 unfold Jd FZ at h;simp only [aal,decide_eq_true_eq,aau] at h;exact ⟨h.1.1,h.1.2,h.2.1⟩
end Go.Proofs.YthbibbkbaphpkaaGreatDoor

/- frankinglaw49.OfficeHonest, walked. -/
import Derived.Test.YthbibbkbaphpkaaGreatDoorMay
import Derived.Test.YthbibbkbaphpkaaGreatDoorMbb
set_option maxHeartbeats 16000000
set_option maxRecDepth 1000000
namespace Go.Proofs.YthbibbkbaphpkaaGreatDoor
open _root_.Go.Proofs.Tryz
open Go Go.RowKit
theorem Qd {o:Ofc} {n:Nat} {t:Trn} (h:Jd o n t=true):o.chain.length≤16∧(∀ x∈o.chain,x.data.length≤300)∧o.used.length≤40:=by
 unfold Jd FZ at h;simp only [aal,decide_eq_true_eq,aau] at h;exact ⟨h.1.1,h.1.2,h.2.1⟩
theorem yI (o:Ofc) (rest:Int) (h:Hd) (inn:List Ltr) (t:Trn):(lh o rest h inn t).bare.length=inn.length∧(lh o rest h inn t).proofs.length=inn.length∧(lh o rest h inn t).mix.inn.length=inn.length∧(lh o rest h inn t).mix.mid.length=inn.length∧(lh o rest h inn t).mix.out.length=inn.length∧(lh o rest h inn t).mix.left.length=inn.length∧(lh o rest h inn t).mix.right.length=inn.length:=by
 have hb:(bu o.secret inn).length=inn.length:=dJ _ _;refine ⟨hb,?_,hb,?_,?_,?_,?_⟩
 ·show (nV o.secret inn).length=_
  simp [nV]
 ·show (t.mid rest (bu o.secret inn) (bu o.secret inn).length).length=_
  rw [Trn.mid_length,hb]
 ·show (t.out rest (bu o.secret inn) (bu o.secret inn).length).length=_
  rw [Trn.out_length,hb]
 ·show (Trn.coms _ _ (bu o.secret inn).length).length=_
  simp [Trn.coms,hb]
 ·show (Trn.coms _ _ (bu o.secret inn).length).length=_
  simp [Trn.coms,hb]
end Go.Proofs.YthbibbkbaphpkaaGreatDoor

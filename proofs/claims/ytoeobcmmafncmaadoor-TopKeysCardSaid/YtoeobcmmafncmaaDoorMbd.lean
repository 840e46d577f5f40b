/-
  The arbiter in plain words: hand-overs, roots, signatures, verdicts. No program here.
-/
import Derived.Test.YtoeobcmmafncmaaDoorMbc
import Derived.Test.YtoeobcmmafncmaaDoorMba
namespace Go.Proofs.YtoeobcmmafncmaaDoor
open Go.RowKit

/-- A hand-over. -/
structure Hd where
  line : Int
  at_ : Int
  arrive : Int
  leg : Int
  from_ : Int
  to_ : Int
  many : Int
  root : List Nat
  time : Int
  e : Int
  s : Int
def Hd.cl (h : Hd) : List Value := [.int .i64 h.line, .int .i64 h.at_, .int .i64 h.arrive, .int .i64 h.leg, .int .i64 h.from_, .int .i64 h.to_, .int .i64 h.many] ++ (byts h.root ++ [.int .i64 h.time, .int .i64 h.e, .int .i64 h.s])
def Hd.ok (h : Hd) : Prop := inI h.line ∧ inI h.at_ ∧ inI h.arrive ∧ inI h.leg ∧ inI h.from_ ∧ inI h.to_ ∧ inI h.many ∧ (h.root.length = 32 ∧ okB h.root) ∧ inI h.time ∧ inI h.e ∧ inI h.s
theorem Hd.cl_length {h : Hd} (ho : h.ok) : h.cl.length = 42 := by
  obtain ⟨_, _, _, _, _, _, _, ⟨hr, _⟩, _⟩ := ho
  simp [Hd.cl, byts_length, hr]
theorem Hd.one (h : Hd) : ∀ v ∈ h.cl, v.oneCell' = true := by
  intro v hv
  unfold Hd.cl at hv
  rcases List.mem_append.1 hv with hv | hv
  · simp only [List.mem_cons, List.not_mem_nil, or_false] at hv
    rcases hv with rfl | rfl | rfl | rfl | rfl | rfl | rfl <;> rfl
  · rcases List.mem_append.1 hv with hv | hv
    · exact byts_oneCell v hv
    · simp only [List.mem_cons, List.not_mem_nil, or_false] at hv
      rcases hv with rfl | rfl | rfl <;> rfl
/-- The cells of a hand-over. -/
theorem Hd.cells {h : Hd} (ho : h.ok) : h.cl[0]? = some (.int .i64 h.line) ∧ h.cl[1]? = some (.int .i64 h.at_) ∧ h.cl[2]? = some (.int .i64 h.arrive) ∧ h.cl[3]? = some (.int .i64 h.leg) ∧ h.cl[4]? = some (.int .i64 h.from_) ∧ h.cl[5]? = some (.int .i64 h.to_) ∧ h.cl[6]? = some (.int .i64 h.many) ∧
    (∀ j, j < 32 → h.cl[7 + j]? = (byts h.root)[j]?) ∧ h.cl[39]? = some (.int .i64 h.time) ∧ h.cl[40]? = some (.int .i64 h.e) ∧ h.cl[41]? = some (.int .i64 h.s) := by
  have hr := ho.2.2.2.2.2.2.2.1.1
  have hl : (byts h.root).length = 32 := by rw [byts_length, hr]
  unfold Hd.cl
  refine ⟨rfl, rfl, rfl, rfl, rfl, rfl, rfl, fun j hj => ?_, ?_, ?_, ?_⟩
  · rw [List.getElem?_append_right (by simp), List.getElem?_append_left (by rw [hl]; simp; omega)]
    simp
  · rw [List.getElem?_append_right (by simp), List.getElem?_append_right (by rw [hl]; simp)]
    simp [hl]
  · rw [List.getElem?_append_right (by simp), List.getElem?_append_right (by rw [hl]; simp)]
    simp [hl]
  · rw [List.getElem?_append_right (by simp), List.getElem?_append_right (by rw [hl]; simp)]
    simp [hl]

def stB (l : List Nat) : ByteArray := ⟨l.map (fun n => UInt8.ofNat n) |>.toArray⟩
/-- What is signed. -/
def Hd.its (h : Hd) : List It := [.int h.line, .int h.at_, .int h.arrive, .int h.leg, .int h.from_, .int h.to_, .int h.many, .text (dgS h.root), .int h.time]
def Hd.text (h : Hd) : List Nat := encN h.its
def tmB (n : Int) : Bool := decide (0 ≤ n) && decide (n < 2097152)
/-- Is a hand-over in form? -/
def Hd.formed (h : Hd) : Bool := (tmB h.at_ && (tmB h.arrive && tmB h.time)) && ((decide (0 ≤ h.from_ ∧ h.from_ < 24) && (decide (-1 ≤ h.to_ ∧ h.to_ < 24) && decide (h.from_ ≠ h.to_))) && (decide (0 ≤ h.line ∧ h.line < 64) && (decide (0 ≤ h.leg ∧ h.leg ≤ 8) && decide (0 ≤ h.many ∧ h.many ≤ 64))))
/-- The point of a signature, its hash, and whether it is right. -/
def ptV (key E S : Int) : Int := mulV (powV 4 S) (powV key (-E))
def sgS : ByteArray := ⟨#[115, 105, 103, 110]⟩
def sgV (pt key : Int) (b : List Nat) : Nat := hashV (sb sgS) (encN [.int pt, .int key, .text (dgS b)])
def sgB (key : Int) (b : List Nat) (E S : Int) : Bool := (validB key && (ordB E && ordB S)) && decide (E = (sgV (ptV key E S) key b : Nat))
def Hd.signed (key : Int) (h : Hd) : Bool := h.formed && sgB key h.text h.e h.s

/-- Roots of lists of texts. -/
def nodS : List Nat := [110, 111, 100, 101]
def leaS : List Nat := [108, 101, 97, 102]
def nooS : List Nat := [110, 111, 110, 101]
def leafN (b : List Nat) : List Nat := shaN (shaN leaS ++ b)
def nodeN (a b : List Nat) : List Nat := shaN (shaN nodS ++ (a ++ b))
def upN : List (List Nat) → List (List Nat)
  | a :: b :: l => nodeN a b :: upN l
  | l => l
theorem upN_length : ∀ l : List (List Nat), (upN l).length = (l.length + 1) / 2
  | [] => rfl
  | [_] => by simp [upN]
  | a :: b :: l => by
    show (nodeN a b :: upN l).length = _
    rw [List.length_cons, upN_length l, List.length_cons, List.length_cons]; omega
/-- Row k of a list of digests. -/
def rowN (l : List (List Nat)) : Nat → List (List Nat)
  | 0 => l
  | k + 1 => upN (rowN l k)
theorem rowN_up (l : List (List Nat)) : ∀ k, rowN (upN l) k = upN (rowN l k)
  | 0 => rfl
  | k + 1 => by show upN (rowN (upN l) k) = _; rw [rowN_up l k]; rfl
/-- The head of the first row that has one member. -/
def topN : Nat → List (List Nat) → List Nat
  | 0, l => l.headD []
  | f + 1, l => if l.length ≤ 1 then l.headD [] else topN f (upN l)
theorem topN_more : ∀ (f : Nat) (l : List (List Nat)), l.length ≤ f + 1 → ∀ g, topN (f + g) l = topN f l
  | 0, l, h, 0 => rfl
  | 0, l, h, g + 1 => by
    rw [Nat.zero_add]
    show (if l.length ≤ 1 then _ else _) = _
    rw [if_pos (by omega)]; rfl
  | f + 1, l, h, g => by
    rw [show f + 1 + g = (f + g) + 1 by omega]
    show (if l.length ≤ 1 then l.headD [] else topN (f + g) (upN l)) = (if l.length ≤ 1 then l.headD [] else topN f (upN l))
    split
    · rfl
    · exact topN_more f (upN l) (by rw [upN_length]; omega) g
def rootN (l : List (List Nat)) : List Nat := if l = [] then taggedN nooS [] else topN l.length (l.map leafN)
theorem nodeN_len (a b : List Nat) : (nodeN a b).length = 32 := shaN_len _
theorem leafN_len (b : List Nat) : (leafN b).length = 32 := shaN_len _
def dgOk (d : List Nat) : Prop := d.length = 32 ∧ okB d
theorem leafN_ok (b : List Nat) : dgOk (leafN b) := ⟨shaN_len _, okB_sha _⟩
theorem nodeN_ok (a b : List Nat) : dgOk (nodeN a b) := ⟨shaN_len _, okB_sha _⟩
theorem upN_ok : ∀ {l : List (List Nat)}, (∀ d ∈ l, dgOk d) → ∀ d ∈ upN l, dgOk d
  | [], _, d, hd => by cases hd
  | [a], h, d, hd => h d hd
  | a :: b :: l, h, d, hd => by
    rcases List.mem_cons.1 hd with rfl | hd
    · exact nodeN_ok a b
    · exact upN_ok (l := l) (fun x hx => h x (by simp [hx])) d hd
theorem topN_ok : ∀ (f : Nat) {l : List (List Nat)}, l ≠ [] → (∀ d ∈ l, dgOk d) → dgOk (topN f l)
  | f, [], h, _ => absurd rfl h
  | 0, a :: l, _, h => h a (by simp)
  | f + 1, a :: l, _, h => by
    show dgOk (if (a :: l).length ≤ 1 then a else topN f (upN (a :: l)))
    split
    · exact h a (by simp)
    · refine topN_ok f ?_ (upN_ok h)
      intro e
      have := congrArg List.length e
      rw [upN_length, List.length_cons, List.length_nil] at this
      omega
theorem rootN_ok (l : List (List Nat)) : dgOk (rootN l) := by
  unfold rootN
  split
  · exact ⟨taggedN_len _ _, okB_sha _⟩
  · rename_i h
    exact topN_ok _ (by simpa using h) (fun d hd => by obtain ⟨x, _, rfl⟩ := List.mem_map.1 hd; exact leafN_ok x)
/-- The text of a letter, the root of a batch. -/
def Ltr.its (x : Ltr) : List It := [.int x.a0, .int x.b0, .int x.a1, .int x.b1, .int x.a2, .int x.b2]
def Ltr.txt (x : Ltr) : List Nat := encN x.its
def rootL (l : List Ltr) : List Nat := rootN (l.map Ltr.txt)

def zeroH : Hd := ⟨0, 0, 0, 0, 0, 0, 0, List.replicate 32 0, 0, 0, 0⟩
end Go.Proofs.YtoeobcmmafncmaaDoor

/-
  A case that came in, with its hand-overs and its run.
-/
namespace Go.Proofs.YtoeobcmmafncmaaDoor
open Go.ChangeShapes Go.WideShapes Go.ChangeAt Go.RowKit Go.Deep

section
variable {H : Type} {enc : TypeId × Value → H} {w : World} {base : Nat} {spare : Nat → Bool} {held : Bool}
theorem in_hd {n : Nat} {cs : List Value} {y : DataW H × List MemPlace} (h : DataW.trod enc Tryd.prog w base spare held n 34 cs = some y) (hw : Light Tryd.prog 34 y.1) : ∃ h : Hd, cs = h.cl ∧ h.ok := by
  obtain ⟨hl, m, hf⟩ := open_struct_w Tryd.underlying34 h hw
  rw [c_hand] at hl
  obtain ⟨y0, q0, l0⟩ := hf 0 _ rfl
  obtain ⟨y1, q1, l1⟩ := hf 1 _ rfl
  obtain ⟨y2, q2, l2⟩ := hf 2 _ rfl
  obtain ⟨y3, q3, l3⟩ := hf 3 _ rfl
  obtain ⟨y4, q4, l4⟩ := hf 4 _ rfl
  obtain ⟨y5, q5, l5⟩ := hf 5 _ rfl
  obtain ⟨y6, q6, l6⟩ := hf 6 _ rfl
  obtain ⟨y7, q7, l7⟩ := hf 7 _ rfl
  simp only [List.getElem_toArray, List.getElem_cons_zero, List.getElem_cons_succ] at q0 q1 q2 q3 q4 q5 q6 q7 l0 l5 l7
  rw [c_run] at q0
  rw [c_int] at q1 q2 q3 q4 q6
  rw [c_digest] at q5
  rw [c_sig] at q7
  obtain ⟨a0, b0, g0, e0, i0, i1, i2⟩ := in_run q0 l0
  obtain ⟨a1, e1, k1⟩ := in_int q1
  obtain ⟨a2, e2, k2⟩ := in_int q2
  obtain ⟨a3, e3, k3⟩ := in_int q3
  obtain ⟨a4, e4, k4⟩ := in_int q4
  obtain ⟨d, e5, -, k5⟩ := in_digest _ _ _ q5 l5
  obtain ⟨a6, e6, k6⟩ := in_int q6
  obtain ⟨a7, b7, e7, k7, k8⟩ := in_pair Tryd.underlying32 ⟨rfl, rfl⟩ ⟨rfl, rfl⟩ c_sig q7 l7
  refine ⟨⟨a0, b0, g0, a1, a2, a3, a4, d, a6, a7, b7⟩, ?_, i0, i1, i2, k1, k2, k3, k4, k5, k6, k7, k8⟩
  rw [← List.drop_zero (l := cs), drop_parts cs 0 3, e0, drop_parts cs (0 + 3) 1, e1, drop_parts cs (0 + 3 + 1) 1, e2, drop_parts cs (0 + 3 + 1 + 1) 1, e3, drop_parts cs (0 + 3 + 1 + 1 + 1) 1, e4, drop_parts cs (0 + 3 + 1 + 1 + 1 + 1) 32, e5,
    drop_parts cs (0 + 3 + 1 + 1 + 1 + 1 + 32) 1, e6, drop_parts cs (0 + 3 + 1 + 1 + 1 + 1 + 32 + 1) 2, e7, List.drop_eq_nil_of_le (by omega), List.append_nil]
  rfl
instance : Inhabited Hd := ⟨zeroH⟩
end
end Go.Proofs.YtoeobcmmafncmaaDoor

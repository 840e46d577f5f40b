/- Plain: numbers, words and lines of reports. -/
import Derived.Lib.ItoaNum
import Derived.Lib.ItoaMem
import Derived.Lib.AtoiAll
set_option maxRecDepth 1000000
set_option maxHeartbeats 16000000
namespace Go.Proofs.YtmbopkcmbiommaaGreatDoor
open Go
abbrev By := List UInt8
def okN (n : Int) : Bool := decide (-1099511627776 ≤ n ∧ n ≤ 1099511627776)
theorem okN_iff {n : Int} : okN n = true ↔ -1099511627776 ≤ n ∧ n ≤ 1099511627776 := by unfold okN; exact decide_eq_true_iff
def digC (u : Nat) : UInt8 := UInt8.ofNat (48 + u)
theorem digC_nat {u : Nat} (h : u < 10) : (digC u).toNat = 48 + u := by
  unfold digC
  rw [UInt8.toNat_ofNat']
  omega
def decF : Nat → Nat → By
  | 0, u => [digC (u % 10)]
  | f + 1, u => if u < 10 then [digC u] else decF f (u / 10) ++ [digC (u % 10)]
theorem decF_eq : ∀ (f u : Nat), u < 10 ^ (f + 1) → decF f u = Lib.decDigits u
  | 0, u, h => by
    have h' : u < 10 := by simpa using h
    rw [Lib.decDigits, dif_pos h']
    unfold decF digC
    rw [Nat.mod_eq_of_lt h']
  | f + 1, u, h => by
    unfold decF
    rw [Lib.decDigits]
    by_cases h1 : u < 10
    · rw [if_pos h1, dif_pos h1]; rfl
    · rw [if_neg h1, dif_neg h1, decF_eq f (u / 10) (by rw [Nat.pow_succ] at h; omega)]; rfl
def itB (n : Int) : By := if n < 0 then 45 :: decF 20 n.natAbs else decF 20 n.toNat
theorem itB_eq {n : Int} (h0 : -9223372036854775808 ≤ n) (h1 : n ≤ 9223372036854775807) : itB n = Lib.itoa n := by
  unfold itB Lib.itoa
  by_cases h : n < 0
  · rw [if_pos h, if_pos h, decF_eq 20 _ (by have : (10 : Nat) ^ 21 = 1000000000000000000000 := by decide
                                             omega)]
  · rw [if_neg h, if_neg h, decF_eq 20 _ (by have : (10 : Nat) ^ 21 = 1000000000000000000000 := by decide
                                             omega)]
def isD (c : UInt8) : Prop := 48 ≤ c.toNat ∧ c.toNat ≤ 57
theorem isD_digC {u : Nat} (h : u < 10) : isD (digC u) := by unfold isD; rw [digC_nat h]; omega
theorem decF_dig : ∀ (f u : Nat), ∀ c ∈ decF f u, isD c
  | 0, u, c, h => by
    unfold decF at h
    rw [List.mem_singleton] at h
    rw [h]
    exact isD_digC (Nat.mod_lt _ (by omega))
  | f + 1, u, c, h => by
    unfold decF at h
    split at h
    · rename_i h1
      rw [List.mem_singleton] at h
      rw [h]
      exact isD_digC h1
    · rcases List.mem_append.1 h with h | h
      · exact decF_dig f _ c h
      · rw [List.mem_singleton] at h
        rw [h]
        exact isD_digC (Nat.mod_lt _ (by omega))
theorem decF_ne : ∀ (f u : Nat), decF f u ≠ []
  | 0, u => by unfold decF; simp
  | f + 1, u => by unfold decF; split <;> simp
theorem parse_app : ∀ (a b : By) (acc m : Nat), Lib.parseUint10 acc a = .ok m → Lib.parseUint10 acc (a ++ b) = Lib.parseUint10 m b
  | [], b, acc, m, h => by injection h with h; subst h; rfl
  | c :: a, b, acc, m, h => by
    unfold Lib.parseUint10 at h
    rw [List.cons_append]
    conv => lhs; unfold Lib.parseUint10
    split at h
    · rename_i h1
      rw [if_pos h1]
      split at h
      · cases h
      · rename_i h2
        rw [if_neg h2]
        split at h
        · cases h
        · rename_i h3
          rw [if_neg h3]
          exact parse_app a b _ _ h
    · cases h
theorem parse_dig {acc d : Nat} (h : d < 10) (ha : acc * 10 + d < 9223372036854775808) : Lib.parseUint10 acc [digC d] = .ok (acc * 10 + d) := by
  unfold Lib.parseUint10
  rw [digC_nat h, if_pos (by omega), if_neg (by omega), if_neg (by omega)]
  unfold Lib.parseUint10
  congr 1
  omega
theorem parse_decF : ∀ (f u : Nat), u < 10 ^ (f + 1) → u < 9223372036854775808 → Lib.parseUint10 0 (decF f u) = .ok u
  | 0, u, h, h2 => by
    have h' : u < 10 := by simpa using h
    unfold decF
    rw [Nat.mod_eq_of_lt h', parse_dig h' (by omega)]
    simp
  | f + 1, u, h, h2 => by
    unfold decF
    split
    · rename_i h1
      rw [parse_dig h1 (by omega)]
      simp
    · rw [parse_app _ _ _ _ (parse_decF f (u / 10) (by rw [Nat.pow_succ] at h; omega) (by omega)), parse_dig (Nat.mod_lt _ (by omega)) (by omega)]
      congr 1
      omega
theorem atoi_itB {n : Int} (h : okN n = true) : Lib.atoiAll (itB n) = .ok n := by
  rw [okN_iff] at h
  have hp : (10 : Nat) ^ (20 + 1) = 1000000000000000000000 := by decide
  unfold itB
  split
  · rename_i h0
    unfold Lib.atoiAll
    simp only
    rw [if_pos (by decide)]
    unfold Lib.parseMag
    rw [if_neg (decF_ne _ _), parse_decF 20 n.natAbs (by omega) (by omega)]
    simp only
    rw [if_neg (by intro h1; exact absurd (by decide) h1.1), if_neg (by omega), if_pos (by decide)]
    congr 1
    omega
  · rename_i h0
    have hd := decF_dig 20 n.toNat
    have hne := decF_ne 20 n.toNat
    have hq := parse_decF 20 n.toNat (by omega) (by omega)
    cases hl : decF 20 n.toNat with
    | nil => exact absurd hl hne
    | cons c r =>
      rw [hl] at hd hq
      have hc : isD c := hd c (List.mem_cons_self ..)
      unfold isD at hc
      unfold Lib.atoiAll
      simp only
      rw [if_neg (by omega)]
      unfold Lib.parseMag
      rw [if_neg (by simp), hq]
      simp only
      rw [if_neg (by omega), if_neg (by omega), if_neg (by omega)]
      congr 1
      omega
def numO (s : By) : Option Int := match Lib.atoiAll s with
  | .ok v => if okN v = true ∧ itB v = s then some v else none
  | _ => none
theorem numO_it {n : Int} (h : okN n = true) : numO (itB n) = some n := by
  unfold numO
  rw [atoi_itB h]
  exact if_pos ⟨h, rfl⟩
theorem numO_some {s : By} {v : Int} (h : numO s = some v) : okN v = true ∧ itB v = s := by
  unfold numO at h
  split at h
  · split at h
    · rename_i h1
      injection h with h
      subst h
      exact h1
    · cases h
  · cases h
theorem itB_ch {n : Int} : ∀ c ∈ itB n, isD c ∨ c = 45 := by
  intro c h
  unfold itB at h
  split at h
  · rcases List.mem_cons.1 h with h | h
    · exact .inr h
    · exact .inl (decF_dig _ _ _ h)
  · exact .inl (decF_dig _ _ _ h)
def splitC (c : UInt8) : By → List By
  | [] => [[]]
  | x :: r => if x = c then [] :: splitC c r else match splitC c r with
    | [] => [[x]]
    | h :: t => (x :: h) :: t
theorem splitC_ne (c : UInt8) : ∀ s : By, splitC c s ≠ []
  | [] => by simp [splitC]
  | x :: r => by
    unfold splitC
    split
    · simp
    · split <;> simp
theorem splitC_none {c : UInt8} : ∀ {a : By}, (∀ x ∈ a, x ≠ c) → splitC c a = [a]
  | [], _ => rfl
  | x :: a, h => by
    unfold splitC
    rw [if_neg (h x (List.mem_cons_self ..)), splitC_none (fun y hy => h y (List.mem_cons_of_mem _ hy))]
theorem splitC_cons {c : UInt8} {b : By} : ∀ {a : By}, (∀ x ∈ a, x ≠ c) → splitC c (a ++ c :: b) = a :: splitC c b
  | [], _ => by
    show splitC c (c :: b) = _
    conv => lhs; unfold splitC
    rw [if_pos rfl]
  | x :: a, h => by
    rw [List.cons_append]
    conv => lhs; unfold splitC
    rw [if_neg (h x (List.mem_cons_self ..)), splitC_cons (fun y hy => h y (List.mem_cons_of_mem _ hy))]
def joinC (c : UInt8) : List By → By
  | [] => []
  | [a] => a
  | a :: b :: t => a ++ c :: joinC c (b :: t)
theorem joinC_cons (c : UInt8) (x : UInt8) (h : By) (t : List By) : joinC c ((x :: h) :: t) = x :: joinC c (h :: t) := by
  cases t <;> rfl
theorem join_split (c : UInt8) : ∀ s : By, joinC c (splitC c s) = s
  | [] => rfl
  | x :: r => by
    have ih := join_split c r
    have hn := splitC_ne c r
    unfold splitC
    split
    · rename_i h1
      subst h1
      cases hs : splitC x r with
      | nil => exact absurd hs hn
      | cons a t => rw [hs] at ih; show [] ++ x :: joinC x (a :: t) = _; rw [ih]; rfl
    · cases hs : splitC c r with
      | nil => exact absurd hs hn
      | cons a t => rw [hs] at ih; simp only; rw [joinC_cons, ih]
def linesC : By → List By
  | [] => []
  | x :: r => if x = 10 then [10] :: linesC r else match linesC r with
    | [] => [[x]]
    | h :: t => (x :: h) :: t
theorem linesC_row {b : By} : ∀ {a : By}, (∀ x ∈ a, x ≠ 10) → linesC (a ++ 10 :: b) = (a ++ [10]) :: linesC b
  | [], _ => by
    show linesC (10 :: b) = _
    conv => lhs; unfold linesC
    rw [if_pos rfl]
    rfl
  | x :: a, h => by
    rw [List.cons_append]
    conv => lhs; unfold linesC
    rw [if_neg (h x (List.mem_cons_self ..)), linesC_row (fun y hy => h y (List.mem_cons_of_mem _ hy))]
    rfl
theorem linesC_flat : ∀ s : By, (linesC s).flatten = s
  | [] => rfl
  | x :: r => by
    have ih := linesC_flat r
    unfold linesC
    split
    · rename_i h1
      subst h1
      show [10] ++ (linesC r).flatten = _
      rw [ih]; rfl
    · cases hs : linesC r with
      | nil => rw [hs] at ih; simp at ih; subst ih; rfl
      | cons a t => rw [hs] at ih; simp only; rw [List.flatten_cons, List.cons_append, ← List.flatten_cons, ih]
def cutNl (t : By) : Option By := if t.getLast? = some 10 then some t.dropLast else none
theorem cutNl_row {a : By} : cutNl (a ++ [10]) = some a := by
  unfold cutNl
  rw [if_pos (by simp), List.dropLast_concat]
theorem cutNl_some {t a : By} (h : cutNl t = some a) : t = a ++ [10] := by
  unfold cutNl at h
  split at h
  · rename_i h1
    injection h with h
    obtain ⟨b, rfl⟩ := List.getLast?_eq_some_iff.1 h1
    rw [List.dropLast_concat] at h
    rw [h]
  · cases h
structure Rl where
  first : Int
  until_ : Int
  every : Int
structure Gp where
  from_ : Int
  until_ : Int
structure Lin where
  offs : List Int
  legs : List Int
  cls : Int
  room : Int
  rules : List Rl
  off : List Gp
structure Tie where
  from_ : Int
  extra : Int
structure Odr where
  from_ : Int
  person : Int
  dest : Int
  cls : Int
  after : Int
  by_ : Int
  crowd : Int
  pay : Int
  ag : List Int
  back : Bool
  els : Int
structure Ent where
  no : Int
  kind : Int
  a : Int
  b : Int
  from_ : Int
  until_ : Int
  known : Int
  gone : Int
structure Slp where
  run : Int
  leg : Int
  kind : Int
  at_ : Int
structure Wld where
  offs : Int
  lines : List Lin
  base : List Int
  leg : List Int
  tiers : List Tie
  orders : List Odr
  people : Int
  ents : List Ent
  covers : Int
  secs : List Int
  seed : List Nat
  faults : List Slp
def zero32 : List Nat := List.replicate 32 0
def zeroW : Wld := ⟨0, [], [], [], [], [], 0, [], 0, [], zero32, []⟩
abbrev Rw := Nat × List Int
def flagI (b : Bool) : Int := if b = true then 1 else 0
def clsR (p : Int × Int) : Rw := (2, [p.1, p.2])
def tieR (x : Tie) : Rw := (3, [x.from_, x.extra])
def ruleR (x : Rl) : Rw := (5, [x.first, x.until_, x.every])
def gapR (x : Gp) : Rw := (6, [x.from_, x.until_])
def lineR (x : Lin) : Rw := (4, [x.cls, x.room, (x.offs.length : Int)] ++ (x.offs ++ x.legs))
def linR (x : Lin) : List Rw := lineR x :: (x.rules.map ruleR ++ x.off.map gapR)
def odrR (x : Odr) : Rw := (7, [x.from_, x.person, x.dest, x.cls, x.after, x.by_, x.crowd, x.pay, flagI x.back, x.els] ++ x.ag)
def entR (x : Ent) : Rw := (8, [x.no, x.kind, x.a, x.b, x.from_, x.until_, x.known, x.gone])
def secR (n : Int) : Rw := (9, [n])
def slpR (x : Slp) : Rw := (10, [x.run, x.leg, x.kind, x.at_])
def Wld.rows (w : Wld) : List Rw := (w.base.zip w.leg).map clsR ++ (w.tiers.map tieR ++ (w.lines.flatMap linR ++ (w.orders.map odrR ++ (w.ents.map entR ++ (w.secs.map secR ++ w.faults.map slpR)))))
def wWorld : By := [119, 111, 114, 108, 100]
def wordN : Nat → By
  | 1 => wWorld
  | 2 => [99, 108, 97, 115, 115]
  | 3 => [116, 105, 101, 114]
  | 4 => [108, 105, 110, 101]
  | 5 => [114, 117, 108, 101]
  | 6 => [103, 97, 112]
  | 7 => [111, 114, 100, 101, 114]
  | 8 => [101, 110, 116, 114, 121]
  | 9 => [115, 101, 99, 114, 101, 116]
  | 10 => [102, 97, 117, 108, 116]
  | _ => []
def wordsL : List By := [wordN 1, wordN 2, wordN 3, wordN 4, wordN 5, wordN 6, wordN 7, wordN 8, wordN 9, wordN 10]
def numT (n : Int) : By := 32 :: itB n
def numsT (l : List Int) : By := l.flatMap numT
def rowT (r : Rw) : By := wordN r.1 ++ numsT r.2 ++ [10]
def hexC (n : Nat) : UInt8 := if n < 10 then UInt8.ofNat (48 + n) else UInt8.ofNat (87 + n)
def hexT (l : List Nat) : By := l.flatMap (fun d => [hexC (d / 16), hexC (d % 16)])
def headT (w : Wld) : By := wWorld ++ numsT [w.people, w.covers, w.offs] ++ (32 :: hexT w.seed) ++ [10]
def Wld.text (w : Wld) : By := headT w ++ w.rows.flatMap rowT
def okR (r : Rw) : Bool := r.2.all okN
def Wld.okW (w : Wld) : Bool := (okN w.people && (okN w.covers && okN w.offs)) && w.rows.all okR
def hexV (c : UInt8) : Option Nat := if 48 ≤ c.toNat ∧ c.toNat ≤ 57 then some (c.toNat - 48) else if 97 ≤ c.toNat ∧ c.toNat ≤ 102 then some (c.toNat - 87) else none
def pairsO : By → Option (List Nat)
  | [] => some []
  | [_] => none
  | a :: b :: r => match hexV a, hexV b, pairsO r with
    | some x, some y, some l => some ((16 * x + y) :: l)
    | _, _, _ => none
def seedO (s : By) : Option (List Nat) := if s.length = 64 then pairsO s else none
def rowN (s : By) : Nat := if s = wordN 1 then 1 else if s = wordN 2 then 2 else if s = wordN 3 then 3 else if s = wordN 4 then 4 else if s = wordN 5 then 5 else if s = wordN 6 then 6 else if s = wordN 7 then 7 else if s = wordN 8 then 8 else if s = wordN 9 then 9 else if s = wordN 10 then 10 else 0
def followsN (r last : Nat) : Bool :=
  if r = 1 then decide (last = 0) else if r = 4 then decide (1 ≤ last ∧ last ≤ 6) else if r = 5 then decide (last = 4 ∨ last = 5) else if r = 6 then decide (4 ≤ last ∧ last ≤ 6) else decide (1 < r ∧ 1 ≤ last ∧ last ≤ r)
def nat_ (l : List Int) (k : Nat) : Int := l.getD k 0
def formR (k : Nat) (l : List Int) : Bool :=
  if k = 2 ∨ k = 3 ∨ k = 6 then decide (l.length = 2)
  else if k = 4 then decide (3 ≤ l.length ∧ 1 ≤ nat_ l 2 ∧ nat_ l 2 ≤ (l.length : Int) ∧ (l.length : Int) = 2 + 2 * nat_ l 2)
  else if k = 5 then decide (l.length = 3)
  else if k = 7 then decide (10 ≤ l.length ∧ (nat_ l 8 = 0 ∨ nat_ l 8 = 1))
  else if k = 8 then decide (l.length = 8)
  else if k = 9 then decide (l.length = 1)
  else if k = 10 then decide (l.length = 4) else false
def numsO : List By → Option (List Int)
  | [] => some []
  | s :: r => match numO s, numsO r with
    | some n, some l => some (n :: l)
    | _, _ => none
def lastL (f : Lin → Lin) (l : List Lin) : List Lin := match l.reverse with
  | [] => []
  | x :: r => (f x :: r).reverse
def addR (w : Wld) (r : Rw) : Wld :=
  let l := r.2
  if r.1 = 2 then { w with base := w.base ++ [nat_ l 0], leg := w.leg ++ [nat_ l 1] }
  else if r.1 = 3 then { w with tiers := w.tiers ++ [⟨nat_ l 0, nat_ l 1⟩] }
  else if r.1 = 4 then { w with lines := w.lines ++ [⟨(l.drop 3).take (nat_ l 2).toNat, (l.drop 3).drop (nat_ l 2).toNat, nat_ l 0, nat_ l 1, [], []⟩] }
  else if r.1 = 5 then { w with lines := lastL (fun x => { x with rules := x.rules ++ [⟨nat_ l 0, nat_ l 1, nat_ l 2⟩] }) w.lines }
  else if r.1 = 6 then { w with lines := lastL (fun x => { x with off := x.off ++ [⟨nat_ l 0, nat_ l 1⟩] }) w.lines }
  else if r.1 = 7 then { w with orders := w.orders ++ [⟨nat_ l 0, nat_ l 1, nat_ l 2, nat_ l 3, nat_ l 4, nat_ l 5, nat_ l 6, nat_ l 7, l.drop 10, decide (nat_ l 8 = 1), nat_ l 9⟩] }
  else if r.1 = 8 then { w with ents := w.ents ++ [⟨nat_ l 0, nat_ l 1, nat_ l 2, nat_ l 3, nat_ l 4, nat_ l 5, nat_ l 6, nat_ l 7⟩] }
  else if r.1 = 9 then { w with secs := w.secs ++ [nat_ l 0] }
  else if r.1 = 10 then { w with faults := w.faults ++ [⟨nat_ l 0, nat_ l 1, nat_ l 2, nat_ l 3⟩] } else w
def readR (w : Wld) (k : Nat) (rest : List By) : Option Wld :=
  if k = 1 then (match rest with
    | [a, b, c, d] => (match numO a, numO b, numO c, seedO d with
      | some x, some y, some z, some s => some { w with people := x, covers := y, offs := z, seed := s }
      | _, _, _, _ => none)
    | _ => none)
  else match numsO rest with
    | some l => if formR k l = true then some (addR w (k, l)) else none
    | none => none
def stepW (st : Wld × Nat) (t : By) : Option (Wld × Nat) := match cutNl t with
  | none => none
  | some a => match splitC 32 a with
    | [] => none
    | f :: rest => if followsN (rowN f) st.2 = true then (readR st.1 (rowN f) rest).map (fun w => (w, rowN f)) else none
def foldW : Nat → Wld × Nat → List By → (Wld × Nat) ⊕ Nat
  | _, st, [] => .inl st
  | n, st, t :: r => match stepW st t with
    | some st' => foldW (n + 1) st' r
    | none => .inr (n + 1)
end Go.Proofs.YtmbopkcmbiommaaGreatDoor

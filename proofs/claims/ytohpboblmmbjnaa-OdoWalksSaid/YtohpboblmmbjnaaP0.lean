/- Binomials and multinomials: how many lists have each number so often. -/
import Derived.Test.YtohpboblmmbjnaaVa
import Derived.Test.YtohpboblmmbjnaaProg
import Derived.Below
import Derived.Deep.Draws
import Derived.Deep.AppendLies
import Derived.Maps.AppendAt
import Derived.OwnWalk
import Derived.Laws.BytesArg
import Derived.Laws.MakeOwn
import Derived.Laws.OwnMore
import Derived.Deep.OwnRows
import Derived.Tactics
import Derived.Lib.ConvBytes
import Derived.Laws.Slices
import Derived.WalkKit
import Derived.KernelRfl
import Derived.RowKit3
import Derived.Deep.LoopGhost
import Derived.Deep.QuietTactic
import Derived.BigQuiet
import Derived.WideLaws
import Derived.Deep.DeepCutAuto
import Derived.Deep.CutBlock
import Derived.Deep.RegionHeld3
import Derived.Laws.Rows
import Derived.Lib.AppendStr
import Derived.ArgAppend
import Derived.Laws.IdiomCopy
import Derived.OrdersHeld
import Derived.Laws.BitsLemmas
import Derived.WalkLawsBesides
import Derived.Lib.SliceRun
import Derived.RowKit
namespace Go.Proofs.Odo
def ch : Nat → Nat → Nat
  | _, 0 => 1
  | 0, _ + 1 => 0
  | n + 1, k + 1 => ch n k + ch n (k + 1)
theorem ch_zero (n : Nat) : ch n 0 = 1 := by cases n <;> rfl
theorem ch_lt {n k : Nat} (h : n < k) : ch n k = 0 := by
  induction n generalizing k with
  | zero => cases k with
    | zero => omega
    | succ k => rfl
  | succ n ih => cases k with
    | zero => omega
    | succ k => rw [ch, ih (by omega), ih (by omega)]
theorem ch_self (n : Nat) : ch n n = 1 := by
  induction n with
  | zero => rfl
  | succ n ih => rw [ch, ih, ch_lt (by omega)]
theorem ch_mul (n k : Nat) : (k + 1) * ch (n + 1) (k + 1) = (n + 1) * ch n k := by
  induction n generalizing k with
  | zero => cases k with
    | zero => rfl
    | succ k => rw [ch_lt (n := 0 + 1) (k := k + 1 + 1) (by omega), ch_lt (n := 0) (k := k + 1) (by omega), Nat.mul_zero, Nat.mul_zero]
  | succ n ih =>
    cases k with
    | zero =>
      have h0 := ih 0
      have e : ch (n + 1 + 1) (0 + 1) = ch (n + 1) 0 + ch (n + 1) (0 + 1) := rfl
      rw [e, ch_zero]
      rw [ch_zero] at h0
      omega
    | succ k =>
      have h1 := ih k
      have h2 := ih (k + 1)
      rw [ch]
      have h3 : ch (n + 1) (k + 1) = ch n k + ch n (k + 1) := rfl
      generalize ch (n + 1) (k + 1) = a at *
      generalize ch (n + 1) (k + 1 + 1) = b at *
      generalize ch n k = c at *
      generalize ch n (k + 1) = d at *
      subst h3
      have e1 : (k + 1 + 1) * (c + d + b) = (k + 1) * (c + d) + (c + d) + (k + 1 + 1) * b := by rw [Nat.mul_add, Nat.add_mul (k + 1) 1]; omega
      have e2 : (n + 1 + 1) * (c + d) = (n + 1) * c + (n + 1) * d + (c + d) := by rw [Nat.add_mul (n + 1) 1, Nat.mul_add]; omega
      rw [e1, e2, h1, h2]
      omega
theorem ch_pos {n k : Nat} (h : k ≤ n) : 0 < ch n k := by
  induction n generalizing k with
  | zero => cases k with
    | zero => decide
    | succ k => omega
  | succ n ih => cases k with
    | zero => rw [ch_zero]; omega
    | succ k => have := ih (k := k) (by omega); rw [ch]; omega
/-- One step of the count: exact. -/
theorem ch_step (a i : Nat) : (i + 1) * ch (a + (i + 1)) (i + 1) = (a + (i + 1)) * ch (a + i) i := ch_mul (a + i) i
theorem ch_mono (a i : Nat) : ch (a + i) i ≤ ch (a + (i + 1)) (i + 1) := by
  show _ ≤ ch (a + i + 1) (i + 1)
  rw [ch]; omega
/-- The multinomial of lengths behind some that make `all` together. -/
def mcA : Nat → List Nat → Nat
  | _, [] => 1
  | all, l :: ls => ch (all + l) l * mcA (all + l) ls
def mc (w : List Nat) : Nat := mcA 0 w
theorem mcA_pos (all : Nat) (w : List Nat) : 0 < mcA all w := by
  induction w generalizing all with
  | nil => exact Nat.one_pos
  | cons l w ih => exact Nat.mul_pos (ch_pos (by omega)) (ih _)
theorem mc_pos (w : List Nat) : 0 < mc w := mcA_pos 0 w
theorem mcA_append (all : Nat) (u v : List Nat) : mcA all (u ++ v) = mcA all u * mcA (all + u.sum) v := by
  induction u generalizing all with
  | nil => simp [mcA]
  | cons l u ih => rw [List.cons_append, mcA, mcA, ih, List.sum_cons, Nat.mul_assoc, Nat.add_assoc]
theorem mc_snoc (u : List Nat) (l : Nat) : mc (u ++ [l]) = mc u * ch (u.sum + l) l := by
  unfold mc
  rw [mcA_append, mcA, mcA]; simp
/-- One less of a number. -/
def less (w : List Nat) (i : Nat) : List Nat := w.set i (w.getD i 0 - 1)
/-- How many lists begin with a number. -/
def share (w : List Nat) (i : Nat) : Nat := if w.getD i 0 = 0 then 0 else mc (less w i)
def shares (w : List Nat) (n : Nat) : Nat := ((List.range n).map (share w)).sum
theorem shares_succ (w : List Nat) (n : Nat) : shares w (n + 1) = shares w n + share w n := by
  unfold shares; rw [List.range_succ]; simp
theorem less_sum (w : List Nat) (i : Nat) (h : w.getD i 0 ≠ 0) : (less w i).sum + 1 = w.sum := by
  induction w generalizing i with
  | nil => simp at h
  | cons l w ih =>
    cases i with
    | zero => simp [less] at *; omega
    | succ i => have := ih i (by simpa using h); simp [less] at *; omega
theorem less_snoc (u : List Nat) (l i : Nat) (h : i < u.length) : less (u ++ [l]) i = less u i ++ [l] := by
  unfold less
  rw [List.set_append_left _ _ h]
  simp [List.getD_eq_getElem?_getD, List.getElem?_append_left h]
theorem getD_snoc (u : List Nat) (l i : Nat) (h : i < u.length) : (u ++ [l]).getD i 0 = u.getD i 0 := by
  simp [List.getD_eq_getElem?_getD, List.getElem?_append_left h]
theorem shares_snoc (u : List Nat) (l : Nat) (hu : 0 < u.sum + l) (n : Nat) (hn : n ≤ u.length) : shares (u ++ [l]) n = shares u n * ch (u.sum + l - 1) l := by
  induction n with
  | zero => simp [shares]
  | succ n ih =>
    rw [shares_succ, shares_succ, ih (by omega), Nat.add_mul]
    congr 1
    unfold share
    rw [getD_snoc u l n (by omega)]
    split
    · simp
    · rename_i h
      rw [less_snoc u l n (by omega), mc_snoc]
      have := less_sum u n h
      congr 2
      omega
/-- Each list begins with one number. -/
theorem shares_all (w : List Nat) (hw : 0 < w.sum) : shares w w.length = mc w := by
  suffices H : ∀ (n : Nat) (w : List Nat), w.length = n → 0 < w.sum → shares w w.length = mc w from H _ w rfl hw
  intro n
  induction n with
  | zero =>
    intro w h0 h1
    obtain rfl := List.length_eq_zero_iff.1 h0
    simp at h1
  | succ n ih =>
    intro w h0 h1
    have hne : w ≠ [] := by intro h; subst h; simp at h0
    obtain ⟨u, l, rfl⟩ : ∃ u l, w = u ++ [l] := ⟨w.dropLast, w.getLast hne, (List.dropLast_concat_getLast hne).symm⟩
    have hu : u.length = n := by simpa using h0
    have hs : 0 < u.sum + l := by simpa using h1
    rw [List.length_append, List.length_singleton, shares_succ, shares_snoc u l hs _ (Nat.le_refl _), mc_snoc]
    have hl : share (u ++ [l]) u.length = if l = 0 then 0 else mc u * ch (u.sum + (l - 1)) (l - 1) := by
      unfold share
      have e : (u ++ [l]).getD u.length 0 = l := by simp [List.getD_eq_getElem?_getD]
      rw [e]
      split
      · rfl
      · unfold less
        rw [e, List.set_append_right _ _ (Nat.le_refl _)]
        simp only [Nat.sub_self, List.set_cons_zero]
        exact mc_snoc u (l - 1)
    rw [hl]
    rcases Nat.eq_zero_or_pos u.sum with hz | hz
    · have hu0 : shares u u.length * ch (u.sum + l - 1) l = 0 := by
        rw [hz, ch_lt (by omega), Nat.mul_zero]
      rw [hu0, if_neg (by omega), hz]
      obtain ⟨m, rfl⟩ : ∃ m, l = m + 1 := ⟨l - 1, by omega⟩
      simp [ch_self]
    · rw [ih u hu hz]
      by_cases h0 : l = 0
      · subst h0
        simp [ch_zero]
      · rw [if_neg h0]
        obtain ⟨m, rfl⟩ : ∃ m, l = m + 1 := ⟨l - 1, by omega⟩
        rw [← Nat.mul_add]
        congr 1
        have : u.sum + (m + 1) = u.sum + m + 1 := by omega
        rw [this, ch]
        simp only [Nat.add_sub_cancel]
        omega
theorem shares_le (w : List Nat) {i j : Nat} (h : i ≤ j) : shares w i ≤ shares w j := by
  induction j with
  | zero => obtain rfl : i = 0 := by omega
            exact Nat.le_refl _
  | succ j ih =>
    rcases Nat.lt_or_ge j i with hj | hj
    · obtain rfl : i = j + 1 := by omega
      exact Nat.le_refl _
    · rw [shares_succ]; have := ih hj; omega
theorem find_ex (w : List Nat) (n m : Nat) (h : n < shares w m) : ∃ i, i < m ∧ shares w i ≤ n ∧ n < shares w (i + 1) := by
  induction m with
  | zero => simp [shares] at h
  | succ m ih =>
    by_cases hm : n < shares w m
    · obtain ⟨i, h1, h2, h3⟩ := ih hm
      exact ⟨i, by omega, h2, h3⟩
    · exact ⟨m, by omega, by omega, h⟩
theorem find_one (w : List Nat) {n i j : Nat} (hi : shares w i ≤ n) (hi' : n < shares w (i + 1)) (hj : shares w j ≤ n) (hj' : n < shares w (j + 1)) : i = j := by
  rcases Nat.lt_trichotomy i j with h | h | h
  · have := shares_le w (i := i + 1) (j := j) h; omega
  · exact h
  · have := shares_le w (i := j + 1) (j := i) h; omega
theorem find_pos (w : List Nat) {n i : Nat} (hi : shares w i ≤ n) (hi' : n < shares w (i + 1)) : w.getD i 0 ≠ 0 := by
  intro h
  rw [shares_succ] at hi'
  unfold share at hi'
  rw [if_pos h] at hi'
  omega
theorem find_share (w : List Nat) {n i : Nat} (hi : shares w i ≤ n) (hi' : n < shares w (i + 1)) : n - shares w i < mc (less w i) := by
  have hp := find_pos w hi hi'
  rw [shares_succ] at hi'
  unfold share at hi'
  rw [if_neg hp] at hi'
  omega
theorem share_le (w : List Nat) {i : Nat} (hi : i < w.length) (hw : 0 < w.sum) : shares w i + share w i ≤ mc w := by
  rw [← shares_succ, ← shares_all w hw]
  exact shares_le w hi
/-- A list in which each number stands so often. -/
def Is : List Nat → List Nat → Prop
  | w, [] => w.sum = 0
  | w, x :: l => w.getD x 0 ≠ 0 ∧ Is (less w x) l
def rank : List Nat → List Nat → Nat
  | _, [] => 0
  | w, x :: l => shares w x + rank (less w x) l
theorem less_length (w : List Nat) (i : Nat) : (less w i).length = w.length := by simp [less]
theorem getD_lt {w : List Nat} {i : Nat} (h : w.getD i 0 ≠ 0) : i < w.length := by
  rcases Nat.lt_or_ge i w.length with h' | h'
  · exact h'
  · rw [List.getD_eq_getElem?_getD, List.getElem?_eq_none h'] at h; simp at h
theorem sum_pos {w : List Nat} {i : Nat} (h : w.getD i 0 ≠ 0) : 0 < w.sum := by have := less_sum w i h; omega
theorem is_length {w l : List Nat} (h : Is w l) : l.length = w.sum := by
  induction l generalizing w with
  | nil => simpa using h.symm
  | cons x l ih => have := ih h.2; have := less_sum w x h.1; simp; omega
theorem rank_lt {w l : List Nat} (h : Is w l) : rank w l < mc w := by
  induction l generalizing w with
  | nil => exact mc_pos w
  | cons x l ih =>
    have h1 := ih h.2
    have h2 := share_le w (getD_lt h.1) (sum_pos h.1)
    unfold share at h2
    rw [if_neg h.1] at h2
    rw [rank]; omega
theorem rank_first {w l : List Nat} {x : Nat} (h : Is w (x :: l)) : shares w x ≤ rank w (x :: l) ∧ rank w (x :: l) < shares w (x + 1) := by
  have h1 := rank_lt h.2
  rw [rank, shares_succ]
  unfold share
  rw [if_neg h.1]
  omega
theorem mcA_zero {w : List Nat} (h : w.sum = 0) : ∀ a, mcA a w = 1 := by
  induction w with
  | nil => intro a; rfl
  | cons l w ih =>
    intro a
    rw [List.sum_cons] at h
    obtain rfl : l = 0 := by omega
    rw [mcA, ch_zero, ih (by omega)]
/-- Numbers and lists are each other's inverse. -/
theorem list_ex (N : Nat) : ∀ (w : List Nat) (n : Nat), w.sum = N → n < mc w → ∃ l, Is w l ∧ rank w l = n := by
  induction N with
  | zero =>
    intro w n hw hn
    have : mc w = 1 := mcA_zero hw 0
    exact ⟨[], hw, by rw [rank]; omega⟩
  | succ N ih =>
    intro w n hw hn
    rw [← shares_all w (by omega)] at hn
    obtain ⟨i, h1, h2, h3⟩ := find_ex w n _ hn
    have hp := find_pos w h2 h3
    have hs := less_sum w i hp
    obtain ⟨l, hl, hr⟩ := ih (less w i) (n - shares w i) (by omega) (find_share w h2 h3)
    exact ⟨i :: l, ⟨hp, hl⟩, by rw [rank, hr]; omega⟩
theorem rank_inj {w l l' : List Nat} (h : Is w l) (h' : Is w l') (he : rank w l = rank w l') : l = l' := by
  induction l generalizing w l' with
  | nil =>
    have e := is_length h'
    have hw : w.sum = 0 := h
    rw [hw] at e
    exact (List.length_eq_zero_iff.1 e).symm
  | cons x l ih =>
    cases l' with
    | nil =>
      have hw : w.sum = 0 := h'
      have := sum_pos h.1
      omega
    | cons y l' =>
      have h1 := rank_first h
      have h2 := rank_first h'
      rw [he] at h1
      obtain rfl := find_one w h1.1 h1.2 h2.1 h2.2
      rw [rank, rank] at he
      rw [ih h.2 h'.2 (by omega)]
/-- Numbers rise with the lists. -/
theorem rank_lex {w p l l' : List Nat} {x y : Nat} (h : Is w (p ++ x :: l)) (h' : Is w (p ++ y :: l')) (hxy : x < y) : rank w (p ++ x :: l) < rank w (p ++ y :: l') := by
  induction p generalizing w with
  | nil =>
    have h1 := rank_first h
    have h2 := rank_first h'
    have := shares_le w (i := x + 1) (j := y) hxy
    simp only [List.nil_append]
    omega
  | cons z p ih => have := ih h.2 h'.2; simp only [List.cons_append, rank]; omega
end Go.Proofs.Odo
/- Lists whose numbers are below some sizes, by their numbers. -/
namespace Go.Proofs.Odo
def prod : List Nat → Nat
  | [] => 1
  | p :: ps => p * prod ps
theorem prod_append (u v : List Nat) : prod (u ++ v) = prod u * prod v := by
  induction u with
  | nil => simp [prod]
  | cons p u ih => rw [List.cons_append, prod, prod, ih, Nat.mul_assoc]
theorem prod_zero {p : List Nat} (h : 0 ∈ p) : prod p = 0 := by
  induction p with
  | nil => cases h
  | cons x p ih =>
    rcases List.mem_cons.1 h with h | h
    · rw [prod, ← h, Nat.zero_mul]
    · rw [prod, ih h, Nat.mul_zero]
theorem prod_pos {p : List Nat} (h : ¬ 0 ∈ p) : 0 < prod p := by
  induction p with
  | nil => exact Nat.one_pos
  | cons x p ih =>
    simp only [List.mem_cons, not_or] at h
    exact Nat.mul_pos (by omega) (ih h.2)
/-- Is it a list of the space? -/
def IsP : List Nat → List Nat → Prop
  | [], [] => True
  | p :: ps, x :: l => x < p ∧ IsP ps l
  | _, _ => False
def rankP : List Nat → List Nat → Nat
  | _ :: ps, x :: l => x * prod ps + rankP ps l
  | _, _ => 0
def atP : List Nat → Nat → List Nat
  | [], _ => []
  | _ :: ps, n => n / prod ps :: atP ps (n % prod ps)
theorem isP_length {p l : List Nat} (h : IsP p l) : l.length = p.length := by
  induction p generalizing l with
  | nil => cases l with
    | nil => rfl
    | cons x l => exact h.elim
  | cons a p ih => cases l with
    | nil => exact h.elim
    | cons x l => simp [ih h.2]
theorem rankP_lt {p l : List Nat} (h : IsP p l) : rankP p l < prod p := by
  induction p generalizing l with
  | nil => cases l with
    | nil => exact Nat.one_pos
    | cons x l => exact h.elim
  | cons a p ih => cases l with
    | nil => exact h.elim
    | cons x l =>
      have h1 := ih h.2
      have h2 : (x + 1) * prod p ≤ a * prod p := Nat.mul_le_mul_right _ h.1
      rw [Nat.add_mul, Nat.one_mul] at h2
      rw [rankP, prod]
      omega
theorem atP_is {p : List Nat} {n : Nat} (h : n < prod p) : IsP p (atP p n) := by
  induction p generalizing n with
  | nil => exact trivial
  | cons a p ih =>
    rw [prod] at h
    have hp : 0 < prod p := by
      rcases Nat.eq_zero_or_pos (prod p) with hz | hz
      · rw [hz, Nat.mul_zero] at h; omega
      · exact hz
    exact ⟨(Nat.div_lt_iff_lt_mul hp).2 h, ih (Nat.mod_lt _ hp)⟩
theorem rankP_atP {p : List Nat} {n : Nat} (h : n < prod p) : rankP p (atP p n) = n := by
  induction p generalizing n with
  | nil => rw [prod] at h; show 0 = n; omega
  | cons a p ih =>
    rw [prod] at h
    have hp : 0 < prod p := by
      rcases Nat.eq_zero_or_pos (prod p) with hz | hz
      · rw [hz, Nat.mul_zero] at h; omega
      · exact hz
    rw [atP, rankP, ih (Nat.mod_lt _ hp), Nat.mul_comm]
    exact Nat.div_add_mod _ _
theorem atP_rankP {p l : List Nat} (h : IsP p l) : atP p (rankP p l) = l := by
  induction p generalizing l with
  | nil => cases l with
    | nil => rfl
    | cons x l => exact h.elim
  | cons a p ih => cases l with
    | nil => exact h.elim
    | cons x l =>
      have h1 := rankP_lt h.2
      rw [rankP, atP, Nat.add_comm, Nat.add_mul_div_right _ _ (by omega), Nat.div_eq_of_lt h1, Nat.zero_add, Nat.add_mul_mod_self_right, Nat.mod_eq_of_lt h1, ih h.2]
theorem rankP_lex {p q l l' : List Nat} {x y : Nat} (h : IsP p (q ++ x :: l)) (h' : IsP p (q ++ y :: l')) (hxy : x < y) : rankP p (q ++ x :: l) < rankP p (q ++ y :: l') := by
  induction q generalizing p with
  | nil =>
    cases p with
    | nil => exact h.elim
    | cons a p =>
      have h1 := rankP_lt h.2
      have h2 : (x + 1) * prod p ≤ y * prod p := Nat.mul_le_mul_right _ hxy
      rw [Nat.add_mul, Nat.one_mul] at h2
      simp only [List.nil_append, rankP]
      omega
  | cons z q ih =>
    cases p with
    | nil => exact h.elim
    | cons a p => have := ih h.2 h'.2; simp only [List.cons_append, rankP]; omega
/-- The list whose numbers are n divided by what stands behind, less whole rounds. -/
def digits : List Nat → Nat → List Nat
  | [], _ => []
  | p :: ps, n => n / prod ps % p :: digits ps n
theorem digits_mod {p : List Nat} (n : Nat) : ∀ m, (∀ k, n = m + k * prod p → digits p m = digits p n) := by
  induction p with
  | nil => intro m k _; rfl
  | cons a p ih =>
    intro m k h
    rw [prod] at h
    rw [digits, digits]
    have h1 : digits p m = digits p n := ih m (k * a) (by rw [h, Nat.mul_assoc])
    rw [h1]
    congr 1
    rcases Nat.eq_zero_or_pos (prod p) with hz | hz
    · rw [hz, Nat.div_zero, Nat.div_zero]
    · rw [h, ← Nat.mul_assoc, Nat.add_mul_div_right _ _ hz, Nat.add_mul_mod_self_right]
theorem atP_digits {p : List Nat} {n : Nat} (h : n < prod p) : atP p n = digits p n := by
  induction p generalizing n with
  | nil => rfl
  | cons a p ih =>
    rw [prod] at h
    have hp : 0 < prod p := by
      rcases Nat.eq_zero_or_pos (prod p) with hz | hz
      · rw [hz, Nat.mul_zero] at h; omega
      · exact hz
    rw [atP, digits, ih (Nat.mod_lt _ hp), Nat.mod_eq_of_lt ((Nat.div_lt_iff_lt_mul hp).2 h)]
    congr 1
    exact digits_mod n _ (n / prod p) (by rw [Nat.mul_comm]; exact (Nat.mod_add_div n (prod p)).symm)
end Go.Proofs.Odo
/- The list behind a list, in both kinds of spaces: its number is the next one. -/
namespace Go.Proofs.Odo
def nextP : List Nat → List Nat → Option (List Nat)
  | p :: ps, x :: l => match nextP ps l with
    | some m => some (x :: m)
    | none => if x + 1 < p then some ((x + 1) :: List.replicate l.length 0) else none
  | _, _ => none
theorem isP_zeros {p : List Nat} (h : ¬ 0 ∈ p) : IsP p (List.replicate p.length 0) := by
  induction p with
  | nil => exact trivial
  | cons a p ih =>
    simp only [List.mem_cons, not_or] at h
    exact ⟨by omega, ih h.2⟩
theorem rankP_zeros (p : List Nat) (n : Nat) : rankP p (List.replicate n 0) = 0 := by
  induction p generalizing n with
  | nil => cases n <;> rfl
  | cons a p ih => cases n with
    | zero => rfl
    | succ n => rw [List.replicate_succ, rankP, ih]; omega
theorem isP_pos {p l : List Nat} (h : IsP p l) : ¬ 0 ∈ p := by
  induction p generalizing l with
  | nil => simp
  | cons a p ih => cases l with
    | nil => exact h.elim
    | cons x l =>
      have h1 := h.1
      have := ih h.2
      simp only [List.mem_cons, not_or]
      exact ⟨by omega, this⟩
theorem nextP_none {p l : List Nat} (h : IsP p l) (e : nextP p l = none) : rankP p l + 1 = prod p := by
  induction p generalizing l with
  | nil => cases l with
    | nil => rfl
    | cons x l => exact h.elim
  | cons a p ih => cases l with
    | nil => exact h.elim
    | cons x l =>
      rw [nextP] at e
      cases e1 : nextP p l with
      | some m => rw [e1] at e; cases e
      | none =>
        rw [e1] at e
        have hx := h.1
        have h2 := ih h.2 e1
        have h3 : ¬ x + 1 < a := fun h => by simp [h] at e
        obtain rfl : a = x + 1 := by omega
        rw [rankP, prod, Nat.add_mul, Nat.one_mul]
        omega
theorem nextP_some {p l m : List Nat} (h : IsP p l) (e : nextP p l = some m) : IsP p m ∧ rankP p m = rankP p l + 1 := by
  induction p generalizing l m with
  | nil => cases l with
    | nil => cases e
    | cons x l => exact h.elim
  | cons a p ih => cases l with
    | nil => exact h.elim
    | cons x l =>
      rw [nextP] at e
      cases e1 : nextP p l with
      | some m1 =>
        rw [e1] at e
        cases e
        obtain ⟨h1, h2⟩ := ih h.2 e1
        exact ⟨⟨h.1, h1⟩, by rw [rankP, rankP, h2]; omega⟩
      | none =>
        rw [e1] at e
        simp only at e
        split at e
        · rename_i hx
          cases e
          have h2 := nextP_none h.2 e1
          have hl := isP_length h.2
          refine ⟨⟨hx, by rw [hl]; exact isP_zeros (isP_pos h.2)⟩, ?_⟩
          rw [rankP, rankP, rankP_zeros, Nat.add_mul, Nat.one_mul]
          omega
        · cases e
/-- A product's next list as the code makes it: the last place that can go up does, zeros behind. -/
theorem nextP_at {p l : List Nat} (hl : l.length = p.length) {i : Nat} (hi : i < l.length) (h : nextP (p.drop (i + 1)) (l.drop (i + 1)) = none) :
    nextP (p.drop i) (l.drop i) = if l.getD i 0 + 1 < p.getD i 0 then some ((l.getD i 0 + 1) :: List.replicate (l.length - (i + 1)) 0) else none := by
  have e1 : l.drop i = l.getD i 0 :: l.drop (i + 1) := by rw [List.getD_eq_getElem?_getD, List.getElem?_eq_getElem hi]; exact List.drop_eq_getElem_cons hi
  have e2 : p.drop i = p.getD i 0 :: p.drop (i + 1) := by rw [List.getD_eq_getElem?_getD, List.getElem?_eq_getElem (by omega)]; exact List.drop_eq_getElem_cons (by omega)
  rw [e1, e2, nextP, h]
  simp only [List.length_drop]
theorem take_up {l : List Nat} {i : Nat} (h : i + 1 ≤ l.length) : l.take (i + 1) = l.take i ++ [l.getD i 0] := by
  rw [List.take_succ_eq_append_getElem h, List.getD_eq_getElem?_getD, List.getElem?_eq_getElem h]
  rfl
theorem nextP_up {p l : List Nat} (hl : l.length = p.length) {m : List Nat} : ∀ i, i ≤ l.length → nextP (p.drop i) (l.drop i) = some m → nextP p l = some (l.take i ++ m)
  | 0, _, h => by simpa using h
  | i + 1, hi, h => by
    have e1 : l.drop i = l.getD i 0 :: l.drop (i + 1) := by rw [List.getD_eq_getElem?_getD, List.getElem?_eq_getElem (by omega)]; exact List.drop_eq_getElem_cons (by omega)
    have e2 : p.drop i = p.getD i 0 :: p.drop (i + 1) := by rw [List.getD_eq_getElem?_getD, List.getElem?_eq_getElem (by omega)]; exact List.drop_eq_getElem_cons (by omega)
    have h1 : nextP (p.drop i) (l.drop i) = some (l.getD i 0 :: m) := by rw [e1, e2, nextP, h]
    rw [nextP_up hl i (by omega) h1, take_up hi, List.append_assoc]
    rfl

/-! ### Weaves -/
def Desc (L : List Nat) : Prop := L.Pairwise (fun x y => y ≤ x)
def pick (a : Nat) (L : List Nat) : Option (List Nat) :=
  match (L.takeWhile (fun x => decide (a < x))).reverse with
  | [] => none
  | b :: R => some (b :: (R.reverse ++ a :: L.dropWhile (fun x => decide (a < x))).reverse)
def nextW : List Nat → Option (List Nat)
  | [] => none
  | a :: L => match nextW L with
    | some m => some (a :: m)
    | none => pick a L
theorem tw_all {a : Nat} : ∀ (S T : List Nat), (∀ x ∈ S, a < x) → (∀ x ∈ T, x ≤ a) → (S ++ T).takeWhile (fun x => decide (a < x)) = S ∧ (S ++ T).dropWhile (fun x => decide (a < x)) = T
  | [], [], _, _ => ⟨rfl, rfl⟩
  | [], t :: T, _, h => by
    have : ¬ a < t := by have := h t (by simp); omega
    simp [this]
  | s :: S, T, h, h' => by
    obtain ⟨h1, h2⟩ := tw_all S T (fun x hx => h x (by simp [hx])) h'
    have : a < s := h s (by simp)
    simp [this, h1, h2]
theorem desc_split {L : List Nat} (h : Desc L) (a : Nat) : ∃ S T, L = S ++ T ∧ (∀ x ∈ S, a < x) ∧ ∀ x ∈ T, x ≤ a := by
  induction L with
  | nil => exact ⟨[], [], rfl, by simp, by simp⟩
  | cons x L ih =>
    obtain ⟨h1, h2⟩ := List.pairwise_cons.1 h
    by_cases hx : a < x
    · obtain ⟨S, T, rfl, h3, h4⟩ := ih h2
      exact ⟨x :: S, T, rfl, fun y hy => (List.mem_cons.1 hy).elim (fun e => by rw [e]; exact hx) (h3 y), h4⟩
    · exact ⟨[], x :: L, rfl, by simp, fun y hy => by
        rcases List.mem_cons.1 hy with rfl | hy
        · omega
        · have := h1 y hy; omega⟩
theorem pick_split {a b : Nat} {S T : List Nat} (hS : ∀ x ∈ S, a < x) (hb : a < b) (hT : ∀ x ∈ T, x ≤ a) : pick a (S ++ b :: T) = some (b :: (S ++ a :: T).reverse) := by
  have := tw_all (S ++ [b]) T (fun x hx => (List.mem_append.1 hx).elim (hS x) (fun h => by rw [List.mem_singleton.1 h]; exact hb)) hT
  rw [List.append_assoc, List.singleton_append] at this
  unfold pick
  rw [this.1, this.2, List.reverse_append]
  simp
theorem pick_nil {a : Nat} {T : List Nat} (hT : ∀ x ∈ T, x ≤ a) : pick a T = none := by
  have := tw_all [] T (by simp) hT
  unfold pick
  rw [List.nil_append] at this
  rw [this.1]; rfl
theorem desc_none {L : List Nat} (h : Desc L) : nextW L = none := by
  induction L with
  | nil => rfl
  | cons a L ih =>
    obtain ⟨h1, h2⟩ := List.pairwise_cons.1 h
    rw [nextW, ih h2]
    exact pick_nil h1
theorem none_desc {L : List Nat} (h : nextW L = none) : Desc L := by
  induction L with
  | nil => exact List.Pairwise.nil
  | cons a L ih =>
    rw [nextW] at h
    cases e : nextW L with
    | some m => rw [e] at h; cases h
    | none =>
      rw [e] at h
      have hd := ih e
      refine List.pairwise_cons.2 ⟨?_, hd⟩
      obtain ⟨S, T, rfl, h1, h2⟩ := desc_split hd a
      rcases List.eq_nil_or_concat S with rfl | ⟨S', b, rfl⟩
      · simpa using h2
      · have hb : a < b := h1 b (by simp)
        rw [List.concat_eq_append, List.append_assoc, List.singleton_append] at h
        rw [pick_split (fun x hx => h1 x (by simp [hx])) hb h2] at h
        cases h
theorem nextW_up {l m : List Nat} : ∀ i, i ≤ l.length → nextW (l.drop i) = some m → nextW l = some (l.take i ++ m)
  | 0, _, h => by simpa using h
  | i + 1, hi, h => by
    have e1 : l.drop i = l.getD i 0 :: l.drop (i + 1) := by rw [List.getD_eq_getElem?_getD, List.getElem?_eq_getElem (by omega)]; exact List.drop_eq_getElem_cons (by omega)
    have h1 : nextW (l.drop i) = some (l.getD i 0 :: m) := by rw [e1, nextW, h]
    rw [nextW_up i (by omega) h1, take_up hi, List.append_assoc]
    rfl
theorem getD_less (w : List Nat) (x i : Nat) : (less w x).getD i 0 = if i = x then w.getD x 0 - 1 else w.getD i 0 := by
  unfold less
  rw [List.getD_eq_getElem?_getD, List.getElem?_set]
  split
  · rename_i h
    subst h
    rw [if_pos rfl]
    split
    · rfl
    · rename_i h
      rw [List.getD_eq_getElem?_getD, List.getElem?_eq_none (by omega)]
      rfl
  · rename_i h
    rw [if_neg (fun e => h e.symm), ← List.getD_eq_getElem?_getD]
theorem sum_zero_iff (w : List Nat) : w.sum = 0 ↔ ∀ i, w.getD i 0 = 0 := by
  induction w with
  | nil => simp
  | cons a w ih =>
    rw [List.sum_cons]
    constructor
    · intro h i
      cases i with
      | zero => simp; omega
      | succ i => simpa using ih.1 (by omega) i
    · intro h
      have h0 := h 0
      have h1 := ih.2 (fun i => by simpa using h (i + 1))
      simp at h0
      omega
theorem is_count {w L : List Nat} : Is w L ↔ ∀ i, w.getD i 0 = L.count i := by
  induction L generalizing w with
  | nil => simpa [Is] using sum_zero_iff w
  | cons x L ih =>
    rw [Is, ih]
    constructor
    · rintro ⟨h1, h2⟩ i
      have := h2 i
      rw [getD_less] at this
      by_cases e : i = x
      · subst e
        rw [if_pos rfl] at this
        rw [List.count_cons_self]
        omega
      · rw [if_neg e] at this
        rw [this, List.count_cons_of_ne (fun h => e h.symm)]
    · intro h
      have hx := h x
      rw [List.count_cons_self] at hx
      refine ⟨by omega, fun i => ?_⟩
      have := h i
      rw [getD_less]
      by_cases e : i = x
      · subst e; rw [if_pos rfl]; omega
      · rw [if_neg e, this, List.count_cons_of_ne (fun h => e h.symm)]
theorem is_perm {w L M : List Nat} (h : Is w L) (hp : L.Perm M) : Is w M := by
  rw [is_count] at h ⊢
  intro i
  rw [h i, hp.count_eq]
theorem shares_gap {w : List Nat} {i j : Nat} (hij : i ≤ j) (h : ∀ k, i ≤ k → k < j → w.getD k 0 = 0) : shares w j = shares w i := by
  induction j with
  | zero => obtain rfl : i = 0 := by omega
            rfl
  | succ j ih =>
    rcases Nat.lt_or_ge j i with hj | hj
    · obtain rfl : i = j + 1 := by omega
      rfl
    · rw [shares_succ, ih hj (fun k h1 h2 => h k h1 (by omega))]
      unfold share
      rw [if_pos (h j hj (by omega)), Nat.add_zero]
theorem count_zero {L : List Nat} {i : Nat} (h : ∀ x ∈ L, x ≠ i) : L.count i = 0 := List.count_eq_zero.2 (fun hm => h i hm rfl)
theorem rank_asc {w L : List Nat} (h : Is w L) (ha : L.Pairwise (fun x y => x ≤ y)) : rank w L = 0 := by
  induction L generalizing w with
  | nil => rfl
  | cons x L ih =>
    obtain ⟨h1, h2⟩ := List.pairwise_cons.1 ha
    rw [rank, ih h.2 h2, Nat.add_zero]
    have hc := is_count.1 h
    rw [shares_gap (Nat.zero_le x) (fun k _ hk => by
      rw [hc k]
      refine count_zero (fun y hy => ?_)
      rcases List.mem_cons.1 hy with rfl | hy
      · omega
      · have := h1 y hy; omega)]
    rfl
theorem rank_desc {w L : List Nat} (h : Is w L) (hd : Desc L) : rank w L + 1 = mc w := by
  induction L generalizing w with
  | nil => rw [rank, show mc w = 1 from mcA_zero h 0]
  | cons x L ih =>
    obtain ⟨h1, h2⟩ := List.pairwise_cons.1 hd
    have h3 := ih h.2 h2
    have hc := is_count.1 h
    have hlen : x < w.length := getD_lt h.1
    have hs : share w x = mc (less w x) := by unfold share; rw [if_neg h.1]
    rw [rank, Nat.add_assoc, h3, ← hs, ← shares_succ, ← shares_all w (sum_pos h.1)]
    refine (shares_gap hlen (fun k hk _ => ?_)).symm
    rw [hc k]
    refine count_zero (fun y hy => ?_)
    rcases List.mem_cons.1 hy with rfl | hy
    · omega
    · have := h1 y hy; omega
theorem nextW_some {w L m : List Nat} (h : Is w L) (e : nextW L = some m) : Is w m ∧ rank w m = rank w L + 1 := by
  induction L generalizing w m with
  | nil => cases e
  | cons a L ih =>
    rw [nextW] at e
    cases e1 : nextW L with
    | some m1 =>
      rw [e1] at e
      cases e
      obtain ⟨h1, h2⟩ := ih h.2 e1
      exact ⟨⟨h.1, h1⟩, by rw [rank, rank, h2]; omega⟩
    | none =>
      rw [e1] at e
      have hd := none_desc e1
      have hlast := rank_desc h.2 hd
      obtain ⟨S, T, rfl, h1, h2⟩ := desc_split hd a
      rcases List.eq_nil_or_concat S with rfl | ⟨S', b, rfl⟩
      · rw [List.nil_append, pick_nil h2] at e; cases e
      · rw [List.concat_eq_append] at *
        have hb : a < b := h1 b (by simp)
        have hS' : ∀ x ∈ S', a < x := fun x hx => h1 x (by simp [hx])
        have e' : pick a (S' ++ [b] ++ T) = some (b :: (S' ++ a :: T).reverse) := by
          rw [List.append_assoc, List.singleton_append]; exact pick_split hS' hb h2
        have hm : some m = some (b :: (S' ++ a :: T).reverse) := e.symm.trans e'
        obtain rfl := Option.some.inj hm
        have hperm : (a :: (S' ++ [b] ++ T)).Perm (b :: (S' ++ a :: T).reverse) := by
          have p1 : (S' ++ a :: T).reverse.Perm (a :: (S' ++ T)) := (List.reverse_perm _).trans List.perm_middle
          have p2 : (S' ++ [b] ++ T).Perm (b :: (S' ++ T)) := by rw [List.append_assoc, List.singleton_append]; exact List.perm_middle
          exact ((p2.cons a).trans (List.Perm.swap b a _)).trans (p1.symm.cons b)
        have hI := is_perm h hperm
        refine ⟨hI, ?_⟩
        have hdS := hd
        unfold Desc at hdS
        rw [List.append_assoc, List.singleton_append] at hdS
        obtain ⟨hd1, hd2, hd3⟩ := List.pairwise_append.1 hdS
        obtain ⟨hd4, hd5⟩ := List.pairwise_cons.1 hd2
        have hasc : (S' ++ a :: T).reverse.Pairwise (fun x y => x ≤ y) := by
          rw [List.pairwise_reverse]
          refine List.pairwise_append.2 ⟨hd1, List.pairwise_cons.2 ⟨h2, hd5⟩, fun x hx y hy => ?_⟩
          have := hS' x hx
          rcases List.mem_cons.1 hy with rfl | hy
          · omega
          · have := h2 y hy; omega
        rw [rank, rank, rank_asc hI.2 hasc, Nat.add_zero, Nat.add_assoc, hlast]
        have hs : share w a = mc (less w a) := by unfold share; rw [if_neg h.1]
        rw [← hs, ← shares_succ]
        have hc := is_count.1 h
        refine shares_gap (by omega) (fun k hk hk2 => ?_)
        rw [hc k]
        refine count_zero (fun y hy => ?_)
        rcases List.mem_cons.1 hy with rfl | hy
        · omega
        · rw [List.append_assoc, List.singleton_append] at hy
          rcases List.mem_append.1 hy with hy | hy
          · have := hd3 y hy b (by simp); omega
          · rcases List.mem_cons.1 hy with rfl | hy
            · omega
            · have := h2 y hy; omega
theorem nextW_none {w L : List Nat} (h : Is w L) (e : nextW L = none) : rank w L + 1 = mc w := rank_desc h (none_desc e)
/-- The first list. -/
def firstA : Nat → List Nat → List Nat
  | _, [] => []
  | i, n :: w => List.replicate n i ++ firstA (i + 1) w
theorem firstA_append (u v : List Nat) : ∀ i, firstA i (u ++ v) = firstA i u ++ firstA (i + u.length) v := by
  induction u with
  | nil => intro i; simp [firstA]
  | cons n u ih => intro i; simp [firstA, ih, Nat.add_assoc, Nat.add_comm 1]
theorem firstA_ge (w : List Nat) : ∀ i, ∀ x ∈ firstA i w, i ≤ x := by
  induction w with
  | nil => intro i x h; cases h
  | cons n w ih =>
    intro i x h
    rcases List.mem_append.1 h with h | h
    · rw [(List.mem_replicate.1 h).2]; exact Nat.le_refl _
    · have := ih _ x h; omega
theorem firstA_asc (w : List Nat) : ∀ i, (firstA i w).Pairwise (fun x y => x ≤ y) := by
  induction w with
  | nil => intro i; exact List.Pairwise.nil
  | cons n w ih =>
    intro i
    refine List.pairwise_append.2 ⟨List.pairwise_replicate.2 (.inr (Nat.le_refl _)), ih _, fun x hx y hy => ?_⟩
    rw [(List.mem_replicate.1 hx).2]
    have := firstA_ge w _ y hy
    omega
theorem firstA_count (w : List Nat) : ∀ i k, (firstA i w).count k = if k < i then 0 else w.getD (k - i) 0 := by
  induction w with
  | nil => intro i k; simp [firstA]
  | cons n w ih =>
    intro i k
    rw [firstA, List.count_append, ih, List.count_replicate]
    by_cases h : k < i
    · rw [if_pos h, if_neg (show ¬ (i == k) = true by simp; omega), if_pos (show k < i + 1 by omega)]
    · rw [if_neg h]
      by_cases h2 : k = i
      · subst h2
        simp
      · rw [if_neg (show ¬ (i == k) = true by simp; omega), if_neg (show ¬ k < i + 1 by omega)]
        obtain ⟨d, rfl⟩ : ∃ d, k = i + 1 + d := ⟨k - (i + 1), by omega⟩
        rw [show i + 1 + d - (i + 1) = d by omega, show i + 1 + d - i = d + 1 by omega]
        simp
theorem firstW_is (w : List Nat) : Is w (firstA 0 w) := is_count.2 (fun i => by rw [firstA_count, if_neg (by omega)]; rfl)
theorem firstW_rank (w : List Nat) : rank w (firstA 0 w) = 0 := rank_asc (firstW_is w) (firstA_asc w 0)
end Go.Proofs.Odo
/-! A REGION WHOSE EVENTS MAY COME UP IN MANY ORDERS, BY ONE OBLIGATION AN EVENT: each block that is made belongs to one event (a colour), an event may take over another's blocks, what is known of an event moves with its blocks. -/
namespace Go.Proofs.Ytohpboblmmbjnaa.P
open Go.RowKit Go.Proofs.YtohpboblmmbjnaaW.PrintWords Go.Proofs.YtohpboblmmbjnaaW.PrintLast

section
variable {P : Program} {ops : Array Oper} {Q : Exit → Act → World → Prop} {md : Region.Mode} {S : World → Prop} {ds : List Nat} {T : Bool × List (List Nat × List Nat)}

section
variable {a0 : Act} {w0 : World} {ev : List (Nat × Tmp)} {use : Nat → List Nat} {F : Nat → (Nat → Value) → (Nat → Prop) → World → Prop} {i : Nat} {N : Tmp} {oi : Oper} {α : Type}
theorem R_mv {d : Kd α} {e : Nat} {w w1 : World} {base : Nat} {ok ok' : Nat → Prop} {v : Value} {xs : List α} (h : d.R e w base ok v xs) (hm : ∀ k, ok k → k < w.heap.size → w1.heap[k]? = w.heap[k]? ∧ ok' k) : d.R e w1 base ok' v xs :=
  Kd.R_mono (Kd.R_step (Kd.R_bound h) (fun k hk hlt => (hm k hk.1 hlt).1)) (fun k hk => (hm k hk.1 hk.2.2.1).2)
theorem S_mv {d : Kd α} {e : Nat} {w w1 : World} {base : Nat} {ok ok' : Nat → Prop} {v : Value} {xs : List α} (h : d.S e w base ok v xs) (hm : ∀ k, ok k → k < w.heap.size → w1.heap[k]? = w.heap[k]? ∧ ok' k) : d.S e w1 base ok' v xs :=
  Kd.S_mono (Kd.S_step (Kd.S_bound h) (fun k hk hlt => (hm k hk.1 hlt).1)) (fun k hk => (hm k hk.1 hk.2.2.1).2)
end
end

section
variable {P : Program} {ops : Array Oper} {Q : Exit → Act → World → Prop} {md : Region.Mode} {S : World → Prop} {ds : List Nat} {T : Bool × List (List Nat × List Nat)}
end

/-! Closing proofs that recur in printed texts, each under a short name: the proof is an automatic parameter (squash2.py). -/
section
variable {p : Prop}
theorem dt_ {q : Prop} [Decidable q] (h : decide q = true := by first | (with_reducible assumption) | assumption) : q := of_decide_eq_true h
theorem bel_ (h : p := by repeat (first | (with_reducible first | exact HB.out | apply below_alloc | apply pw_below_drewN | apply below_drew1 | refine below_set ?_ (Aside0.out (by assumption))) | exact HB.out)) : p := h
theorem ee_ (h : p := by first | rfl | (simp [errW_none, errW_some] <;> rfl) | (simp [*, errW_none, errW_some] <;> rfl)) : p := h
theorem ff_ (h : p := by first | rfl | (simp; done) | (simp [*]; done)) : p := h
theorem cb_ {q : Prop} (h : Aside0 q) (t : q → p := by intro h_; repeat (first | exact (Kd.C_below h_ HB.out) | (with_reducible refine Kd.C_alloc ?_ _) | (with_reducible refine Kd.C_drewN ?_ _) | (with_reducible refine Kd.C_drew ?_))) : p := t h.out
theorem put_ : (∀ (l : List Value) (i : Nat) (x : Value), l.toArray.setIfInBounds i x = (l.set i x).toArray) ∧ (∀ (a b : Value) (l : List Value), (a :: l).set 0 b = b :: l) ∧ (∀ (a b : Value) (l : List Value) (n : Nat), (a :: l).set (n + 1) b = a :: l.set n b) :=
  ⟨fun _ _ _ => List.setIfInBounds_toArray .., fun _ _ _ => rfl, fun _ _ _ _ => rfl⟩
theorem hx_ {w W : World} {a : Addr} {v : Value} (HB : Aside0 (Below w.heap.size w W)) (h : w.cell? a = some v) : W.cell? a = some v := (HB.out.cell (World.block_lt_of_cell? w _ h)).trans h
end
theorem blkA2 {w : World} {g : Nat} {t : TypeId} {v0 v1 : Value} (h : w.heap[g]? = some (.cells #[v0, v1] t (0, 0))) : w.cell? ⟨g, 0, none⟩ = some v0 ∧ w.cell? ⟨g, 1, none⟩ = some v1 ∧ w.frozen? ⟨g, 0, none⟩ = false ∧ w.frozen? ⟨g, 1, none⟩ = false :=
  ⟨(blk_cell h 0).trans rfl, (blk_cell h 1).trans rfl, blk_frozen h 0, blk_frozen h 1⟩
theorem blkA3 {w : World} {g : Nat} {t : TypeId} {v0 v1 v2 : Value} (h : w.heap[g]? = some (.cells #[v0, v1, v2] t (0, 0))) : w.cell? ⟨g, 0, none⟩ = some v0 ∧ w.cell? ⟨g, 1, none⟩ = some v1 ∧ w.cell? ⟨g, 2, none⟩ = some v2 ∧ w.frozen? ⟨g, 0, none⟩ = false ∧ w.frozen? ⟨g, 1, none⟩ = false ∧ w.frozen? ⟨g, 2, none⟩ = false :=
  ⟨(blk_cell h 0).trans rfl, (blk_cell h 1).trans rfl, (blk_cell h 2).trans rfl, blk_frozen h 0, blk_frozen h 1, blk_frozen h 2⟩
section
variable {p q : Prop}
theorem rs_ (h : Aside0 q) (t : q → p := by intro h_; (with_reducible repeat (first | apply Kd.R_alloc | apply Kd.R_drewN | apply Kd.R_drew)); exact h_) : p := t h.out
theorem ag_ (h : p := by (try simp only [List.map_toArray, List.map_cons, List.map_nil]); first | done | rfl | (simp only [List.length_drop, List.length_take]; rfl)) : p := h
end
section
variable {w W0 W W1 : World} {g g' g2 : Nat} {o : Obj} {row : Option Nat}
theorem bs_ (w : World) (hb : Below W.heap.size W W1) (h : Below w.heap.size w W := by repeat (first | (with_reducible first | exact HB.out | apply below_alloc | apply pw_below_drewN | apply below_drew1 | refine below_set ?_ (Aside0.out (by assumption))) | exact HB.out)) : Aside0 (Below w.heap.size w W1) := ⟨below_step h hb⟩
end
section
variable {P : Program} {ops : Array Oper} {o : Oper} {rest : List Oper} {a : Act} {Q : Exit → Act → World → Prop}
theorem st_ {W w1 : World} {t : TypeId} {p : Tmp} {v : Operand} (h : ∀ w', w' = w1 → wpList P ops Q rest a w') (hgd : o.guard = none := by rfl) (ho : o.op = .store t (.tmp p) v := by rfl) (hN : o.dst = none := by rfl)
    (hrun : (execOp a.eval o).run P W = .ok .skip w1 := by first | (go_simp; done) | (go_simp; rfl)) : wpList P ops Q (o :: rest) a W := store_event hgd ho hN hrun h
end
end Go.Proofs.Ytohpboblmmbjnaa.P
-- Printed by xprint.py, a program of this session over the kit's printer.
namespace Go.Proofs.Ytohpboblmmbjnaa.P
open Go.RowKit Go.Proofs.YtohpboblmmbjnaaW.PrintWords Go.Proofs.YtohpboblmmbjnaaW.PrintLast Go.Proofs.YtohpboblmmbjnaaW.PrintMore
attribute [local go_sem] max2_int min2_int max_two min_two max_three min_three max_four min_four   -- for this text's walks alone



def errW : Option Int → Value
 | none => .nilIface
 | some c => .iface 0 (.int .i64 c)
theorem errW_none : errW none = .nilIface := rfl
theorem errW_some (c : Int) : errW (some c) = .iface 0 (.int .i64 c) := rfl

theorem info3 : (Try.prog.info? 3).map (fun i => (i.zero, i.size, i.bytes)) = some (some (.int .i64 0), 1, 8) := by kernel_rfl
theorem info25 : (Try.prog.info? 25).map (fun i => (i.zero, i.size, i.bytes)) = some (some (.int .u64 0), 1, 8) := by kernel_rfl
-- the values' own types

end Go.Proofs.Ytohpboblmmbjnaa.P

/- Which programs are right: the program's Valid and the document's answer alike, and what holds of a right one. -/
import Derived.Test.YtemhpbdlonfikaaPvg
namespace Go.Proofs.Ytemhpbdlonfikaa.P
open Go Go.RowKit Go.Proofs.YtemhpbdlonfikaaW.PrintWords Go.Proofs.YtemhpbdlonfikaaW.PrintLast Go.Proofs.YtemhpbdlonfikaaW.PrintMore

/-- All of d numbers from i on. -/
def allR (f : Nat → Bool) (i d : Nat) : Bool := (List.range d).all fun (j : Nat) => f (i + j)
theorem allR_succ (f : Nat → Bool) (i d : Nat) : allR f i (d + 1) = (f i && allR f (i + 1) d) := by
  unfold allR
  rw [List.range_succ_eq_map, List.all_cons, List.all_map]
  congr 2
  funext j
  show f (i + (j + 1)) = f (i + 1 + j)
  rw [show i + (j + 1) = i + 1 + j by omega]
theorem allR_at {f : Nat → Bool} {i d : Nat} (h : allR f i d = true) {q : Nat} (h0 : i ≤ q) (h1 : q < i + d) : f q = true := by
  have := List.all_eq_true.1 h (q - i) (List.mem_range.2 (by omega))
  rwa [show i + (q - i) = q by omega] at this
open Classical in
/-- Is a text a name? -/
noncomputable def nameB (s : ByteArray) : Bool := if h : s.size ≤ 140737488351232 then Classical.choose (name_tells s h) else false
theorem nameB_is (s : ByteArray) (h : s.size ≤ 140737488351232) : Ev (fun k => lexis_Name.f k s) (nameB s) ∧ Ev (fun k => weirref05_Name.f k s) (nameB s) := by
  unfold nameB
  rw [dif_pos h]
  exact Classical.choose_spec (name_tells s h)
/-- Texts of sizes that a machine holds. -/
def Texts (l : List ByteArray) : Prop := ∀ i : Nat, (tx l i).size ≤ 140737488351232
theorem rises_name (l : List ByteArray) (hl : l.length ≤ 9223372036854775807) (ht : Texts l) : Ev (fun k => prog_rises__lexis_Name.f k l) (risesB l 1 (l.length - 1) && allR (fun i => nameB (tx l i)) 0 l.length) := by
  have key : ∀ (d i : Nat), 1 ≤ i → i + d = l.length → Ev (fun k => prog_rises__lexis_Name.l0 k l l l.length i) (risesB l i d && allR (fun i => nameB (tx l i)) i d) := by
    intro d
    induction d with
    | zero =>
      intro i _ hi
      refine Ev.step (f := fun _ => some true) (fun k => ?_) (Ev.now _)
      simp only [prog_rises__lexis_Name.l0]
      rw [if_neg (by omega)]
    | succ d ih =>
      intro i h1 hi
      have hw := wrap_nat (k := i) (n := l.length) (by omega) hl
      have hm : wrap64 ((i : Int) - 1) = ((i - 1 : Nat) : Int) := by unfold wrap64; omega
      rw [risesB_succ, allR_succ]
      by_cases hc : Op.bytesLess (tx l (i - 1)).toList (tx l i).toList = true
      · rw [hc, Bool.true_and]
        have hn := (nameB_is (tx l i) (ht i)).1
        cases ha : nameB (tx l i) with
        | true =>
          rw [ha] at hn
          rw [Bool.true_and]
          refine Ev.step (f := fun k => (lexis_Name.f k (tx l i)).bind fun t => if t = true then prog_rises__lexis_Name.l0 k l l l.length ((i + 1 : Nat) : Int) else some false) (fun k => ?_) (Ev.bind hn (Ev.congr (fun k => if_pos rfl) (ih (i + 1) (by omega) (by omega))))
          simp only [prog_rises__lexis_Name.l0]
          rw [if_pos (by omega), if_pos (by omega), if_pos (by omega), if_pos (by omega), hm, if_pos (by omega), if_pos (by omega), if_pos (show Op.bytesLess (rdOf ByteArray.empty l ((i - 1 : Nat) : Int)).toList (rdOf ByteArray.empty l (i : Int)).toList = true from hc), hw]; rfl
        | false =>
          rw [ha] at hn
          rw [Bool.false_and, Bool.and_false]
          refine Ev.step (f := fun k => (lexis_Name.f k (tx l i)).bind fun t => if t = true then prog_rises__lexis_Name.l0 k l l l.length ((i + 1 : Nat) : Int) else some false) (fun k => ?_) (Ev.bind hn (Ev.congr (fun k => if_neg (by decide)) (Ev.now _)))
          simp only [prog_rises__lexis_Name.l0]
          rw [if_pos (by omega), if_pos (by omega), if_pos (by omega), if_pos (by omega), hm, if_pos (by omega), if_pos (by omega), if_pos (show Op.bytesLess (rdOf ByteArray.empty l ((i - 1 : Nat) : Int)).toList (rdOf ByteArray.empty l (i : Int)).toList = true from hc), hw]; rfl
      · rw [Bool.eq_false_iff.2 hc, Bool.false_and, Bool.false_and]
        refine Ev.step (f := fun _ => some false) (fun k => ?_) (Ev.now _)
        simp only [prog_rises__lexis_Name.l0]
        rw [if_pos (by omega), if_pos (by omega), if_pos (by omega), if_pos (by omega), hm, if_pos (by omega), if_pos (by omega), if_neg (show ¬ Op.bytesLess (rdOf ByteArray.empty l ((i - 1 : Nat) : Int)).toList (rdOf ByteArray.empty l (i : Int)).toList = true from hc)]
  refine Ev.congr (g := fun k => prog_rises__lexis_Name.f k l) (f := fun k => prog_rises__lexis_Name.l0 k l l l.length ((0 : Nat) : Int)) (fun k => by simp only [prog_rises__lexis_Name.f]; rfl) ?_
  rcases Nat.eq_zero_or_pos l.length with h0 | h0
  · rw [h0]
    refine Ev.step (f := fun _ => some true) (fun k => ?_) (Ev.now _)
    simp only [prog_rises__lexis_Name.l0]
    rw [if_neg (by omega)]
  · obtain ⟨n, hn⟩ : ∃ n, l.length = n + 1 := ⟨l.length - 1, by omega⟩
    have hk := key n 1 (Nat.le_refl _) (by omega)
    rw [show l.length - 1 = n by omega]
    have hw := wrap_nat (k := 0) (n := l.length) (by omega) hl
    rw [hn, allR_succ]
    rw [hn] at hk
    have hnm := (nameB_is (tx l 0) (ht 0)).1
    cases ha : nameB (tx l 0) with
    | true =>
      rw [ha] at hnm
      rw [Bool.true_and]
      refine Ev.step (f := fun k => (lexis_Name.f k (tx l 0)).bind fun t => if t = true then prog_rises__lexis_Name.l0 k l l ((n + 1 : Nat) : Int) ((0 + 1 : Nat) : Int) else some false) (fun k => ?_) (Ev.bind hnm (Ev.congr (fun k => if_pos rfl) hk))
      simp only [prog_rises__lexis_Name.l0]
      rw [if_pos (by omega), if_pos (by omega), if_pos (by omega), if_neg (by omega), hw]; rfl
    | false =>
      rw [ha] at hnm
      rw [Bool.false_and, Bool.and_false]
      refine Ev.step (f := fun k => (lexis_Name.f k (tx l 0)).bind fun t => if t = true then prog_rises__lexis_Name.l0 k l l ((n + 1 : Nat) : Int) ((0 + 1 : Nat) : Int) else some false) (fun k => ?_) (Ev.bind hnm (Ev.congr (fun k => if_neg (by decide)) (Ev.now _)))
      simp only [prog_rises__lexis_Name.l0]
      rw [if_pos (by omega), if_pos (by omega), if_pos (by omega), if_neg (by omega), hw]; rfl
end Go.Proofs.Ytemhpbdlonfikaa.P

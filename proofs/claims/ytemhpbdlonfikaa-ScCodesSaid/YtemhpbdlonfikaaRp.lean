/- The document's Put and Take, in plain words: as the program's. -/
import Derived.Test.YtemhpbdlonfikaaPua
import Derived.Test.YtemhpbdlonfikaaP26
import Derived.Test.YtemhpbdlonfikaaP29
namespace Go.Proofs.Ytemhpbdlonfikaa.P
open Go Go.RowKit Go.Proofs.YtemhpbdlonfikaaW.PrintWords Go.Proofs.YtemhpbdlonfikaaW.PrintLast Go.Proofs.YtemhpbdlonfikaaW.PrintMore

theorem rput_l (u : Nat) : ∀ (acc : List Int), acc.length + (leb u).length < 1000 → u < 18446744073709551616 → Ev (fun k => weirref04_Put.l0 k u acc) (strOfNums (acc ++ leb u)) := by
  induction u using Nat.strongRecOn with
  | ind u ih =>
    intro acc hl hu
    by_cases h1 : u < 128
    · refine Ev.step (f := fun _ => some (strOfNums (acc ++ leb u))) (fun k => ?_) (Ev.now _)
      simp only [weirref04_Put.l0]
      rw [if_neg (by omega), if_pos (by have := leb_pos u; omega), leb_small h1]
      congr 3
      simp; omega
    · have hlen : (leb u).length = (leb (u / 128)).length + 1 := by rw [leb_more h1, List.length_cons]
      have e1 : IntKind.u64.wrap (Int.tdiv (u : Int) 128) = ((u / 128 : Nat) : Int) := by rw [Int.tdiv_eq_ediv_of_nonneg (by omega), u64w]; omega
      have e2 : (Int.tmod (u : Int) 128 + 128) % 256 = ((u % 128 + 128 : Nat) : Int) := by rw [Int.tmod_eq_emod_of_nonneg (by omega)]; omega
      refine Ev.step (f := fun k => weirref04_Put.l0 k ((u / 128 : Nat) : Int) (acc ++ [((u % 128 + 128 : Nat) : Int)])) (fun k => ?_) ?_
      · simp only [weirref04_Put.l0]
        rw [if_pos (by omega), if_pos (by omega), e1, e2]
      · have := ih (u / 128) (by omega) (acc ++ [((u % 128 + 128 : Nat) : Int)]) (by rw [List.length_append]; simp; omega) (by omega)
        rw [List.append_assoc, List.singleton_append, ← leb_more h1] at this
        exact this
theorem rput_is {v : Int} (h : I64 v) : Ev (fun k => weirref04_Put.f k v) (putB v) := by
  have h3 := rput_l (zig v) [] (by have := leb_len10 (zig_lt h); simp; omega) (zig_lt h)
  have h4 : Ev (fun k => weirref04_Put.j0 k (zig v : Nat)) (putB v) := Ev.step (fun k => by simp only [weirref04_Put.j0]) h3
  obtain ⟨h1, h2⟩ := h
  refine Ev.congr (f := fun k => weirref04_Put.j0 k (zig v : Nat)) (fun k => ?_) h4
  unfold weirref04_Put.f
  by_cases h0 : v < 0
  · have e2 : IntKind.u64.wrap (IntKind.u64.wrap v * 2) = 18446744073709551616 + 2 * v := by rw [u64w, u64w]; omega
    have e : bits .xor .u64 18446744073709551615 (IntKind.u64.wrap (IntKind.u64.wrap v * 2)) = ((zig v : Nat) : Int) := by
      rw [e2, bits_xor64]
      have h5 : BitVec.ofInt 64 18446744073709551615 = BitVec.allOnes 64 := by decide
      rw [h5, BitVec.allOnes_xor, BitVec.toNat_not, BitVec.toNat_ofInt, u64w]
      unfold zig
      rw [if_neg (by omega)]
      omega
    rw [if_pos h0, e]
  · have e : IntKind.u64.wrap (IntKind.u64.wrap v * 2) = ((zig v : Nat) : Int) := by
      rw [u64w, u64w]
      unfold zig
      rw [if_pos (by omega)]
      omega
    rw [if_neg h0, e]

theorem rstep_or {u n : Nat} {c : Int} (h0 : 0 ≤ c) (h1 : c < 256) (hn : n ≤ 9) (hn9 : n = 9 → c ≤ 1) (hu : u < 2 ^ (7 * n)) :
    bits .or .u64 (u : Int) (shl .u64 (IntKind.u64.wrap (Int.tmod c 128)) (wrap64 (7 * (n : Int)))) = ((u + (c % 128).toNat * 2 ^ (7 * n) : Nat) : Int) := by
  have h := (step_or h0 h1 hn hn9 hu).1
  rw [and127 c h0 h1] at h
  rw [Int.tmod_eq_emod_of_nonneg h0]
  exact h
theorem runz_is {U : Nat} (h : U < 18446744073709551616) : (if Int.tmod (U : Int) 2 = 1 then wrap64 ((wrap64 (-(wrap64 ((U : Int) / 2)))) - 1) else wrap64 ((U : Int) / 2)) = unzig U := by
  rw [Int.tmod_eq_emod_of_nonneg (by omega)]
  unfold unzig
  by_cases h0 : U % 2 = 0
  · rw [if_neg (by omega), if_pos h0]
    unfold wrap64
    omega
  · rw [if_pos (by omega), if_neg h0]
    have e : wrap64 ((U : Int) / 2) = ((U / 2 : Nat) : Int) := by unfold wrap64; omega
    rw [e]
    have e2 : wrap64 (-(((U / 2 : Nat) : Int))) = -((U / 2 : Nat) : Int) := by unfold wrap64; omega
    rw [e2]
    unfold wrap64
    omega
theorem rtake_j4 {U n : Nat} (h : U < 18446744073709551616) (hn : n ≤ 9) (b : Bool) : Ev (fun k => weirref04_Take.j4 k (U : Int) (n : Int) b) (if b = true then (0, 0, 40) else (unzig U, ((n + 1 : Nat) : Int), 0)) := by
  have hw : wrap64 ((n : Int) + 1) = ((n + 1 : Nat) : Int) := by unfold wrap64; omega
  have hu := runz_is h
  refine Ev.step (f := fun _ => some (if b = true then (0, 0, 40) else (unzig U, ((n + 1 : Nat) : Int), 0))) (fun k => ?_) (Ev.now _)
  simp only [weirref04_Take.j4]
  cases b with
  | true => rfl
  | false =>
    rw [hw, ← hu]
    by_cases ht : Int.tmod (U : Int) 2 = 1
    · rw [if_pos ht, if_pos ht]; rfl
    · rw [if_neg ht, if_neg ht]; rfl
theorem rtake_l (s : ByteArray) (a : Nat) (hs : s.size ≤ 4611686018427387904) (d : Nat) : ∀ n u : Nat, n + d = 10 → u < 2 ^ (7 * n) → (a + n ≤ s.size + 10) →
    Ev (fun k => weirref04_Take.l0 k s (a : Int) (u : Int) (n : Int)) (tkR (takeL n u (bytesI s (a + n)))) := by
  induction d with
  | zero =>
    intro n u hn hu ha
    have e : takeL n u (bytesI s (a + n)) = none := by
      cases bytesI s (a + n) with
      | nil => rfl
      | cons c r => rw [takeL, if_pos (by omega)]
    rw [e]
    refine Ev.step (f := fun k => weirref04_Take.j2 k s (a : Int) (u : Int) (n : Int) false) (fun k => ?_) ?_
    · simp only [weirref04_Take.l0]
      split
      · rw [decide_eq_false (by omega)]
      · rfl
    · exact Ev.step (f := fun _ => some (0, 0, 40)) (fun k => by simp only [weirref04_Take.j2]; rw [if_neg (by decide)]) (Ev.now _)
  | succ d ih =>
    intro n u hn hu ha
    have hw : wrap64 ((a : Int) + (n : Int)) = ((a + n : Nat) : Int) := by unfold wrap64; omega
    have hw7 : wrap64 (7 * (n : Int)) = ((7 * n : Nat) : Int) := by unfold wrap64; omega
    have hw1 : wrap64 ((n : Int) + 1) = ((n + 1 : Nat) : Int) := by unfold wrap64; omega
    by_cases hlt : a + n < s.size
    · rw [bytesI_at hlt]
      have hc := bytesI_in s (a + n) (bt s ((a + n : Nat) : Int)) (by rw [bytesI_at hlt]; exact List.mem_cons_self)
      obtain ⟨c, hcc⟩ : ∃ c, bt s ((a + n : Nat) : Int) = c := ⟨_, rfl⟩
      rw [hcc] at hc ⊢
      have hm : IntKind.u64.wrap (Int.tmod c 128) = c % 128 := by rw [Int.tmod_eq_emod_of_nonneg hc.1, u64w]; omega
      refine Ev.step (f := fun k => weirref04_Take.j2 k s (a : Int) (u : Int) (n : Int) true) (fun k => ?_) ?_
      · simp only [weirref04_Take.l0]
        rw [hw, if_pos (by omega), decide_eq_true (by omega)]
      refine Ev.step (f := fun k => weirref04_Take.j3 k s (a : Int) (u : Int) (n : Int) c (IntKind.u64.wrap (Int.tmod c 128)) (decide (n = 9 ∧ 1 < c % 128))) (fun k => ?_) ?_
      · simp only [weirref04_Take.j2]
        rw [if_pos trivial, hw, if_pos (by omega), if_pos (by omega), hcc]
        by_cases h9 : n = 9
        · rw [if_pos (by omega), hm]
          congr 1
          simp [h9]
        · rw [if_neg (by omega)]
          congr 1
          simp [h9]
      · by_cases h9 : n = 9 ∧ 1 < c % 128
        · rw [decide_eq_true h9]
          have e : takeL n u (c :: bytesI s (a + n + 1)) = none := by rw [takeL, if_neg (by omega), if_pos ⟨h9.1, by omega⟩]
          rw [e]
          exact Ev.step (f := fun _ => some (0, 0, 40)) (fun k => by simp only [weirref04_Take.j3]; rw [if_pos trivial]) (Ev.now _)
        · rw [decide_eq_false h9]
          by_cases hbig : n = 9 ∧ 1 < c
          · -- ten groups that go on
            have hc128 : 128 ≤ c := by omega
            have e : takeL n u (c :: bytesI s (a + n + 1)) = none := by rw [takeL, if_neg (by omega), if_pos hbig]
            rw [e]
            refine Ev.step (f := fun k => weirref04_Take.l0 k s (a : Int) (bits .or .u64 (u : Int) (shl .u64 (IntKind.u64.wrap (Int.tmod c 128)) (wrap64 (7 * (n : Int))))) ((n + 1 : Nat) : Int)) (fun k => ?_) ?_
            · simp only [weirref04_Take.j3]
              rw [if_neg (by decide), if_pos (by omega), if_pos (by omega), hw1]
            · refine Ev.step (f := fun k => weirref04_Take.j2 k s (a : Int) (bits .or .u64 (u : Int) (shl .u64 (IntKind.u64.wrap (Int.tmod c 128)) (wrap64 (7 * (n : Int))))) ((n + 1 : Nat) : Int) false) (fun k => ?_) ?_
              · simp only [weirref04_Take.l0]
                split
                · rw [decide_eq_false (by omega)]
                · rfl
              · exact Ev.step (f := fun _ => some (0, 0, 40)) (fun k => by simp only [weirref04_Take.j2]; rw [if_neg (by decide)]) (Ev.now _)
          · have hso := step_or hc.1 hc.2 (by omega : n ≤ 9) (fun e => by omega) hu
            have hro := rstep_or hc.1 hc.2 (by omega : n ≤ 9) (fun e => by omega) hu
            obtain ⟨_, ho2, ho3⟩ := hso
            by_cases h128 : c < 128
            · have key : ∀ b : Bool, b = decide (c = 0 ∧ 0 < n) → tkR (takeL n u (c :: bytesI s (a + n + 1))) = (if b = true then (0, 0, 40) else (unzig (u + (c % 128).toNat * 2 ^ (7 * n)), ((n + 1 : Nat) : Int), 0)) := by
                intro b hb
                rw [takeL, if_neg (show ¬ 10 ≤ n by omega), if_neg hbig, if_pos h128, hb]
                by_cases hz : c = 0 ∧ 0 < n
                · rw [if_pos hz, decide_eq_true hz]; rfl
                · rw [if_neg hz, decide_eq_false hz]; rfl
              rw [key _ rfl]
              refine Ev.step (f := fun k => weirref04_Take.j4 k ((u + (c % 128).toNat * 2 ^ (7 * n) : Nat) : Int) (n : Int) (decide (c = 0 ∧ 0 < n))) (fun k => ?_) (rtake_j4 ho2 (by omega) _)
              simp only [weirref04_Take.j3]
              rw [if_neg (by decide), if_pos (by omega), if_neg (by omega), hro]
              by_cases h00 : c = 0
              · rw [if_pos h00]
                congr 1
                simp [h00]
              · rw [if_neg h00]
                congr 1
                simp [h00]
            · have hn9 : n ≠ 9 := fun e => by omega
              refine Ev.step (f := fun k => weirref04_Take.l0 k s (a : Int) ((u + (c % 128).toNat * 2 ^ (7 * n) : Nat) : Int) ((n + 1 : Nat) : Int)) (fun k => ?_) ?_
              · simp only [weirref04_Take.j3]
                rw [if_neg (by decide), if_pos (by omega), if_pos (by omega), hro, hw1]
              · have := ih (n + 1) (u + (c % 128).toNat * 2 ^ (7 * n)) (by omega) (ho3 hn9) (by omega)
                rw [takeL, if_neg (show ¬ 10 ≤ n by omega), if_neg hbig, if_neg h128]
                exact this
    · rw [bytesI_end (by omega)]
      refine Ev.step (f := fun k => weirref04_Take.j2 k s (a : Int) (u : Int) (n : Int) false) (fun k => ?_) ?_
      · simp only [weirref04_Take.l0]
        rw [hw, if_neg (by omega)]
      · exact Ev.step (f := fun _ => some (0, 0, 40)) (fun k => by simp only [weirref04_Take.j2]; rw [if_neg (by decide)]) (Ev.now _)
theorem rtake_is (s : ByteArray) (at_ : Int) (hs : s.size ≤ 4611686018427387904) : Ev (fun k => weirref04_Take.f k s at_) (tk s at_) := by
  unfold tk
  by_cases h0 : at_ < 0
  · rw [if_pos (.inl h0)]
    refine Ev.congr (f := fun k => weirref04_Take.j0 k s at_ true) (fun k => by unfold weirref04_Take.f; rw [if_pos h0]) ?_
    exact Ev.step (f := fun _ => some (0, 0, 40)) (fun k => by simp only [weirref04_Take.j0]; rw [if_pos trivial]) (Ev.now _)
  · by_cases h1 : (s.size : Int) ≤ at_
    · rw [if_pos (.inr h1)]
      refine Ev.congr (f := fun k => weirref04_Take.j0 k s at_ true) (fun k => by unfold weirref04_Take.f; rw [if_neg h0, decide_eq_true (by omega)]) ?_
      exact Ev.step (f := fun _ => some (0, 0, 40)) (fun k => by simp only [weirref04_Take.j0]; rw [if_pos trivial]) (Ev.now _)
    · rw [if_neg (by omega)]
      obtain ⟨a, rfl⟩ : ∃ a : Nat, at_ = a := ⟨at_.toNat, by omega⟩
      refine Ev.congr (f := fun k => weirref04_Take.j0 k s (a : Int) false) (fun k => by unfold weirref04_Take.f; rw [if_neg h0, decide_eq_false (by omega)]) ?_
      refine Ev.step (f := fun k => weirref04_Take.l0 k s (a : Int) ((0 : Nat) : Int) ((0 : Nat) : Int)) (fun k => by simp only [weirref04_Take.j0]; rw [if_neg (by decide)]; rfl) ?_
      have := rtake_l s a hs 10 0 0 rfl (by simp) (by omega)
      simpa using this
end Go.Proofs.Ytemhpbdlonfikaa.P
/- What a text's reader has still to do at each place, in plain words. -/
namespace Go.Proofs.Ytemhpbdlonfikaa.P
open Go Go.RowKit Go.Proofs.YtemhpbdlonfikaaW.PrintWords Go.Proofs.YtemhpbdlonfikaaW.PrintLast Go.Proofs.YtemhpbdlonfikaaW.PrintMore
section
variable (s : ByteArray) (p : Pg)
def E3 (P Q : List Int) (R : List (List Int)) (M : List Int) (B : List (List S59)) (d : Nat) (r : RS) : Res := match bufM s p.lo.length d r with | none => failR | some t => finR s p.th.length P Q R M (B ++ t.1) t.2
def E4 (P Q : List Int) (R : List (List Int)) (M : List Int) (B : List (List S59)) (d' : Nat) (D : List S59) (d : Nat) (r : RS) : Res := match wrM s p.lo.length d r with | none => failR | some t => E3 s p P Q R M (B ++ [D ++ t.1]) d' t.2
def E2 (P Q : List Int) (R : List (List Int)) (D : List Int) (d : Nat) (r : RS) : Res := E3 s p P Q R (D ++ (rowM s d r).1) [] p.th.length (rowM s d r).2
def E0 (i : Nat) (P Q : List Int) (R : List (List Int)) (r : RS) : Res := E2 s p (P ++ (thrT s ((tsP p).drop i) r).1.1) (Q ++ (thrT s ((tsP p).drop i) r).1.2.1) (R ++ (thrT s ((tsP p).drop i) r).1.2.2) [] p.lo.length (thrT s ((tsP p).drop i) r).2
def E1 (i : Nat) (P Q : List Int) (R : List (List Int)) (D : List Int) (d : Nat) (r : RS) : Res := E0 s p i P Q (R ++ [D ++ (rowM s d r).1]) (rowM s d r).2
end
section
variable {s : ByteArray} {p : Pg} {P Q : List Int} {R : List (List Int)} {M : List Int} {B : List (List S59)} {r : RS}
theorem E0_start (hg : p.rg.length = p.th.length) : stateR (stateM (tsP p) p.lo.length s) = E0 s p 0 [] [] [] ((0 : Int), false) := by
  unfold stateM E0 E2 E3
  rw [List.drop_zero, tsP_len hg]
  simp only [List.nil_append]
  cases bufM s p.lo.length p.th.length (rowM s p.lo.length (thrT s (tsP p) (0, false)).2).2 with
  | none => rfl
  | some b =>
    simp only [Option.bind_some]
    unfold finR
    split
    · rfl
    · split <;> rfl
theorem E0_step (hg : p.rg.length = p.th.length) {i : Nat} (hi : i < p.th.length) : E0 s p i P Q R r = E1 s p (i + 1) (P ++ [(numM s 0 ((rd_L3 p.th (i : Int)).length : Int) r).1]) (Q ++ [(numM s 0 2 (numM s 0 ((rd_L3 p.th (i : Int)).length : Int) r).2).1]) R [] (rd_L4 p.rg (i : Int)).length (numM s 0 2 (numM s 0 ((rd_L3 p.th (i : Int)).length : Int) r).2).2 := by
  unfold E1 E0
  rw [tsP_drop hg hi]
  simp only [thrT, List.append_assoc, List.singleton_append, List.nil_append]
theorem E1_step {i : Nat} {D : List Int} {d : Nat} : E1 s p i P Q R D (d + 1) r = E1 s p i P Q R (D ++ [(valM s r).1]) d (valM s r).2 := by
  unfold E1
  rw [rowM]
  simp only [List.append_assoc, List.singleton_append]
theorem E1_end {i : Nat} {D : List Int} : E1 s p i P Q R D 0 r = E0 s p i P Q (R ++ [D]) r := by
  unfold E1
  rw [rowM, List.append_nil]
theorem E0_end (hg : p.rg.length = p.th.length) : E0 s p p.th.length P Q R r = E2 s p P Q R [] p.lo.length r := by
  unfold E0
  have e : (tsP p).drop p.th.length = [] := List.drop_eq_nil_of_le (by rw [tsP_len hg]; exact Nat.le_refl _)
  rw [e]
  simp only [thrT, List.append_nil]
theorem E2_step {D : List Int} {d : Nat} : E2 s p P Q R D (d + 1) r = E2 s p P Q R (D ++ [(valM s r).1]) d (valM s r).2 := by
  unfold E2
  rw [rowM]
  simp only [List.append_assoc, List.singleton_append]
theorem E2_end {D : List Int} : E2 s p P Q R D 0 r = E3 s p P Q R D [] p.th.length r := by
  unfold E2
  rw [rowM, List.append_nil]
theorem E3_step {d : Nat} : E3 s p P Q R M B (d + 1) r = E4 s p P Q R M B d [] (numM s 0 64 r).1.toNat (numM s 0 64 r).2 := by
  unfold E4 E3
  rw [bufM]
  cases wrM s p.lo.length (numM s 0 64 r).1.toNat (numM s 0 64 r).2 with
  | none => rfl
  | some l =>
    simp only [Option.bind_some, List.nil_append]
    cases bufM s p.lo.length d l.2 with
    | none => rfl
    | some t => simp
theorem E3_end : E3 s p P Q R M B 0 r = finR s p.th.length P Q R M B r := by
  unfold E3
  rw [bufM]
  simp only [List.append_nil]
theorem E4_bad {d' d : Nat} {D : List S59} (h : r.2 = true ∨ p.lo.length = 0) : E4 s p P Q R M B d' D (d + 1) r = failR := by
  unfold E4
  rw [wrM, if_pos h]
theorem E4_step {d' d : Nat} {D : List S59} (h : ¬ (r.2 = true ∨ p.lo.length = 0)) : E4 s p P Q R M B d' D (d + 1) r = E4 s p P Q R M B d' (D ++ [⟨(numM s 0 ((p.lo.length : Int) - 1) r).1, (valM s (numM s 0 ((p.lo.length : Int) - 1) r).2).1⟩]) d (valM s (numM s 0 ((p.lo.length : Int) - 1) r).2).2 := by
  unfold E4
  rw [wrM, if_neg h]
  simp only
  cases wrM s p.lo.length d (valM s (numM s 0 ((p.lo.length : Int) - 1) r).2).2 with
  | none => rfl
  | some t => simp
theorem E4_end {d' : Nat} {D : List S59} : E4 s p P Q R M B d' D 0 r = E3 s p P Q R M (B ++ [D]) d' r := by
  unfold E4
  rw [wrM]
  simp only [List.append_nil]
end
end Go.Proofs.Ytemhpbdlonfikaa.P
/- The document's reader of a state, in plain words: what it has still to do at each place. -/
namespace Go.Proofs.Ytemhpbdlonfikaa.P
open Go Go.RowKit Go.Proofs.YtemhpbdlonfikaaW.PrintWords Go.Proofs.YtemhpbdlonfikaaW.PrintLast Go.Proofs.YtemhpbdlonfikaaW.PrintMore
variable {s : ByteArray} {p : Pg} {P Q : List Int} {R : List (List Int)} {M : List Int}
abbrev RdT := List Int × List Int × (List (List Int)) × List Int × (List (List (S59))) × Int × Int
def readN (e : Int) : RdT := ([], [], [], [], [], 0, e)
def readR (o : Option StT) : RdT := match o with
  | none => readN 5
  | some u => (u.1, u.2.1, u.2.2.1, u.2.2.2.1, u.2.2.2.2.1, u.2.2.2.2.2, 0)
theorem rval_is (hs : s.size ≤ 4611686018427387904) (r : RS) : Ev (fun k => weirref11_reader_take.f k s r.1 r.2) ((valM s r).1, s, (valM s r).2.1, (valM s r).2.2) := by
  refine Ev.bind (f := fun k (b : Int × Int × Int) => if b.2.2 = 0 then (some (b.1, s, wrap64 (r.1 + b.2.1), r.2)) else (some (0, s, r.1, true))) (rtake_is s r.1 hs) ?_
  unfold valM
  by_cases h : (tk s r.1).2.2 = 0
  · simp only [if_pos h]; exact Ev.now _
  · simp only [if_neg h]; exact Ev.now _
def smallM (s : ByteArray) (most : Int) (r : RS) : Int × RS :=
  if (valM s r).1 < 0 then (0, ((valM s r).2.1, true)) else if most < (valM s r).1 then (0, ((valM s r).2.1, true)) else valM s r
theorem rsm_is (hs : s.size ≤ 4611686018427387904) (most : Int) (r : RS) : Ev (fun k => weirref11_reader_small.f k s r.1 r.2 most) ((smallM s most r).1, s, (smallM s most r).2.1, (smallM s most r).2.2) := by
  refine Ev.bind (f := fun k (b : Int × ByteArray × Int × Bool) => if b.1 < 0 then (some (0, b.2.1, b.2.2.1, true)) else (if b.1 > most then (some (0, b.2.1, b.2.2.1, true)) else (some (b.1, b.2.1, b.2.2.1, b.2.2.2)))) (rval_is hs r) ?_
  unfold smallM
  by_cases h1 : (valM s r).1 < 0
  · simp only [if_pos h1]; exact Ev.now _
  · by_cases h2 : most < (valM s r).1
    · simp only [if_neg h1, if_pos h2]; exact Ev.now _
    · simp only [if_neg h1, if_neg h2]; exact Ev.now _
theorem valM_err {r : RS} (h : r.2 = false) (hb : (valM s r).2.2 = true) : valM s r = (0, (r.1, true)) := by
  unfold valM at hb ⊢
  split
  · rename_i h0
    rw [if_pos h0, h] at hb
    cases hb
  · rfl
theorem smallM_num {r : RS} (most : Int) (h : r.2 = false) : smallM s most r = numM s 0 most r := by
  unfold smallM numM
  by_cases hb : (valM s r).2.2 = true
  · rw [if_pos (show (valM s r).2.2 = true ∨ (valM s r).1 < 0 ∨ most < (valM s r).1 from .inl hb), valM_err h hb]
    simp only
    rw [if_neg (show ¬ ((0 : Int) < 0) by decide)]
    split <;> rfl
  · by_cases h1 : (valM s r).1 < 0
    · rw [if_pos h1, if_pos (.inr (.inl h1))]
    · by_cases h2 : most < (valM s r).1
      · rw [if_neg h1, if_pos h2, if_pos (.inr (.inr h2))]
      · rw [if_neg h1, if_neg h2, if_neg (fun hh => by
          rcases hh with hh | hh | hh
          · exact hb hh
          · exact h1 hh
          · exact h2 hh)]
theorem smallM_bad (most : Int) {r : RS} (h : r.2 = true) : (smallM s most r).2.2 = true := by
  unfold smallM
  split
  · rfl
  · split
    · rfl
    · exact valM_bad r h
/-- Threads, by the document's reader. -/
def thrS (s : ByteArray) : List (Nat × Nat) → RS → (List Int × List Int × List (List Int)) × RS
  | [], r => (([], [], []), r)
  | (n, m) :: ts, r =>
    let a := smallM s n r
    let b := smallM s 2 a.2
    let g := rowM s m b.2
    let t := thrS s ts g.2
    ((a.1 :: t.1.1, b.1 :: t.1.2.1, g.1 :: t.1.2.2), t.2)
theorem thrS_bad (ts : List (Nat × Nat)) : ∀ r : RS, r.2 = true → (thrS s ts r).2.2 = true := by
  induction ts with
  | nil => intro r h; exact h
  | cons t ts ih =>
    intro r h
    exact ih _ (rowM_bad _ _ (smallM_bad _ (smallM_bad _ h)))
theorem thr_sim (ts : List (Nat × Nat)) : ∀ r : RS, thrS s ts r = thrT s ts r ∨ ((thrS s ts r).2.2 = true ∧ (thrT s ts r).2.2 = true) := by
  induction ts with
  | nil => intro r; exact .inl rfl
  | cons t ts ih =>
    intro r
    obtain ⟨n, m⟩ := t
    cases h0 : r.2 with
    | true => exact .inr ⟨thrS_bad _ r h0, thrT_bad _ r h0⟩
    | false =>
      have e1 := smallM_num (s := s) (n : Int) h0
      cases h1 : (numM s 0 n r).2.2 with
      | true => exact .inr ⟨thrS_bad ts _ (rowM_bad _ _ (smallM_bad _ (by rw [e1]; exact h1))), thrT_bad ts _ (rowM_bad _ _ (numM_bad _ _ _ h1))⟩
      | false =>
        have e2 := smallM_num (s := s) 2 h1
        rcases ih (rowM s m (numM s 0 2 (numM s 0 n r).2).2).2 with h | h
        · refine .inl ?_
          simp only [thrS, thrT, e1, e2, h]
        · refine .inr ?_
          simp only [thrS, thrT, e1, e2]
          exact h
/-- What is answered behind the buffers. -/
def finN (s : ByteArray) (n : Nat) (P Q : List Int) (R : List (List Int)) (M : List Int) (B : List (List S59)) (r : RS) : RdT :=
  if (numM s (-1) ((n : Int) - 1) r).2.2 = true then readN 5 else if (numM s (-1) ((n : Int) - 1) r).2.1 = (s.size : Int) then (P, Q, R, M, B, (numM s (-1) ((n : Int) - 1) r).1, 0) else readN 5
theorem finN_bad {n : Nat} {B : List (List S59)} {r : RS} (h : r.2 = true) : finN s n P Q R M B r = readN 5 := by
  unfold finN
  rw [if_pos (numM_bad _ _ _ h)]
def bufN (s : ByteArray) (nl n d : Nat) (P Q : List Int) (R : List (List Int)) (M : List Int) (B : List (List S59)) (r : RS) : RdT :=
  match bufM s nl d r with
  | none => readN 5
  | some t => finN s n P Q R M (B ++ t.1) t.2
theorem bufN_bad {nl n d : Nat} {B : List (List S59)} {r : RS} (h : r.2 = true) : bufN s nl n d P Q R M B r = readN 5 := by
  unfold bufN
  cases e : bufM s nl d r with
  | none => rfl
  | some t => exact finN_bad (bufM_bad nl d r t h e)
def endN (s : ByteArray) (p : Pg) (P Q : List Int) (R : List (List Int)) (t : (List Int × List Int × List (List Int)) × RS) : RdT :=
  bufN s p.lo.length p.th.length p.th.length (P ++ t.1.1) (Q ++ t.1.2.1) (R ++ t.1.2.2) (rowM s p.lo.length t.2).1 [] (rowM s p.lo.length t.2).2
theorem endN_bad {R : List (List Int)} {t : (List Int × List Int × List (List Int)) × RS} (h : t.2.2 = true) : endN s p P Q R t = readN 5 := bufN_bad (rowM_bad _ _ h)
theorem read_end {t : (List Int × List Int × List (List Int)) × RS} (ht : t = thrT s (tsP p) (0, false)) (hg : p.rg.length = p.th.length) : endN s p [] [] [] t = readR (stateM (tsP p) p.lo.length s) := by
  subst ht
  unfold endN stateM bufN
  rw [tsP_len hg]
  simp only [List.nil_append]
  cases bufM s p.lo.length p.th.length (rowM s p.lo.length (thrT s (tsP p) (0, false)).2).2 with
  | none => rfl
  | some b =>
    simp only [Option.bind_some]
    unfold finN
    split
    · rfl
    · split <;> rfl
section
variable (s : ByteArray) (p : Pg)
abbrev G3 (P Q : List Int) (R : List (List Int)) (M : List Int) (B : List (List S59)) (d : Nat) (r : RS) : RdT := bufN s p.lo.length p.th.length d P Q R M B r
def G4 (P Q : List Int) (R : List (List Int)) (M : List Int) (B : List (List S59)) (d' : Nat) (D : List S59) (d : Nat) (r : RS) : RdT := if r.2 = true then readN 5 else match wrM s p.lo.length d r with | none => readN 5 | some t => G3 s p P Q R M (B ++ [D ++ t.1]) d' t.2
def G2 (P Q : List Int) (R : List (List Int)) (D : List Int) (d : Nat) (r : RS) : RdT := G3 s p P Q R (D ++ (rowM s d r).1) [] p.th.length (rowM s d r).2
def G0 (i : Nat) (P Q : List Int) (R : List (List Int)) (r : RS) : RdT := endN s p P Q R (thrS s ((tsP p).drop i) r)
def G1 (i : Nat) (P Q : List Int) (R : List (List Int)) (D : List Int) (d : Nat) (r : RS) : RdT := G0 s p i P Q (R ++ [D ++ (rowM s d r).1]) (rowM s d r).2
end
section
variable {B : List (List S59)} {r : RS}
theorem G0_start (hg : p.rg.length = p.th.length) : readR (stateM (tsP p) p.lo.length s) = G0 s p 0 [] [] [] ((0 : Int), false) := by
  unfold G0
  rw [List.drop_zero]
  rcases thr_sim (s := s) (tsP p) ((0 : Int), false) with h1 | ⟨h1, h2⟩
  · exact (read_end h1 hg).symm
  · rw [endN_bad h1, ← read_end rfl hg, endN_bad h2]
theorem G0_step (hg : p.rg.length = p.th.length) {i : Nat} (hi : i < p.th.length) : G0 s p i P Q R r = G1 s p (i + 1) (P ++ [(smallM s ((rd_L3 p.th (i : Int)).length : Int) r).1]) (Q ++ [(smallM s 2 (smallM s ((rd_L3 p.th (i : Int)).length : Int) r).2).1]) R [] (rd_L4 p.rg (i : Int)).length (smallM s 2 (smallM s ((rd_L3 p.th (i : Int)).length : Int) r).2).2 := by
  unfold G1 G0 endN
  rw [tsP_drop hg hi]
  simp only [thrS, List.append_assoc, List.singleton_append, List.nil_append]
theorem G1_step {i : Nat} {D : List Int} {d : Nat} : G1 s p i P Q R D (d + 1) r = G1 s p i P Q R (D ++ [(valM s r).1]) d (valM s r).2 := by
  unfold G1
  rw [rowM]
  simp only [List.append_assoc, List.singleton_append]
theorem G1_end {i : Nat} {D : List Int} : G1 s p i P Q R D 0 r = G0 s p i P Q (R ++ [D]) r := by
  unfold G1
  rw [rowM, List.append_nil]
theorem G0_end (hg : p.rg.length = p.th.length) : G0 s p p.th.length P Q R r = G2 s p P Q R [] p.lo.length r := by
  unfold G0 endN G2
  have e : (tsP p).drop p.th.length = [] := List.drop_eq_nil_of_le (by rw [tsP_len hg]; exact Nat.le_refl _)
  rw [e]
  simp only [thrS, List.append_nil, List.nil_append]
theorem G2_step {D : List Int} {d : Nat} : G2 s p P Q R D (d + 1) r = G2 s p P Q R (D ++ [(valM s r).1]) d (valM s r).2 := by
  unfold G2
  rw [rowM]
  simp only [List.append_assoc, List.singleton_append]
theorem G2_end {D : List Int} : G2 s p P Q R D 0 r = G3 s p P Q R D [] p.th.length r := by
  unfold G2
  rw [rowM, List.append_nil]
theorem G4_bad {d' d : Nat} {D : List S59} (h : r.2 = true) : G4 s p P Q R M B d' D d r = readN 5 := by unfold G4; rw [if_pos h]
theorem G4_end {d' d : Nat} {D : List S59} (h : d = 0 ∨ r.2 = true) : G4 s p P Q R M B d' D d r = G3 s p P Q R M (B ++ [D]) d' r := by
  by_cases hb : r.2 = true
  · rw [G4_bad hb]
    exact (bufN_bad hb).symm
  · rcases h with h | h
    · subst h
      unfold G4
      rw [if_neg hb, wrM]
      simp only [List.append_nil]
    · exact absurd h hb
theorem G3_step {d : Nat} : G3 s p P Q R M B (d + 1) r = G4 s p P Q R M B d [] (smallM s 64 r).1.toNat (smallM s 64 r).2 := by
  by_cases hb : r.2 = true
  · rw [G4_bad (smallM_bad _ hb)]
    exact bufN_bad hb
  · have h0 : r.2 = false := Bool.eq_false_iff.2 hb
    rw [smallM_num 64 h0]
    by_cases hc : (numM s 0 64 r).2.2 = true
    · rw [G4_bad hc]
      unfold G3 bufN
      rw [bufM]
      cases e : wrM s p.lo.length (numM s 0 64 r).1.toNat (numM s 0 64 r).2 with
      | none => rfl
      | some l =>
        have hl := wrM_bad _ _ _ _ hc e
        simp only [Option.bind_some]
        cases e2 : bufM s p.lo.length d l.2 with
        | none => rfl
        | some t => exact finN_bad (show t.2.2 = true from bufM_bad _ _ _ t hl e2)
    · unfold G4
      rw [if_neg hc]
      unfold G3 bufN
      rw [bufM]
      cases wrM s p.lo.length (numM s 0 64 r).1.toNat (numM s 0 64 r).2 with
      | none => rfl
      | some l =>
        simp only [Option.bind_some, List.nil_append]
        cases bufM s p.lo.length d l.2 with
        | none => rfl
        | some t => simp
theorem G3_end : G3 s p P Q R M B 0 r = finN s p.th.length P Q R M B r := by
  unfold G3 bufN
  rw [bufM]
  simp only [List.append_nil]
theorem small_neg {r : RS} : (smallM s (-1) r).2.2 = true := by
  unfold smallM
  by_cases h : (valM s r).1 < 0
  · rw [if_pos h]
  · rw [if_neg h, if_pos (by omega)]
theorem G4_step {d' d : Nat} {D : List S59} (h : r.2 = false) : G4 s p P Q R M B d' D (d + 1) r = G4 s p P Q R M B d' (D ++ [⟨(smallM s ((p.lo.length : Int) - 1) r).1, (valM s (smallM s ((p.lo.length : Int) - 1) r).2).1⟩]) d (valM s (smallM s ((p.lo.length : Int) - 1) r).2).2 := by
  have hn : ¬ r.2 = true := by rw [h]; exact Bool.false_ne_true
  by_cases hz : p.lo.length = 0
  · have hb : (smallM s ((p.lo.length : Int) - 1) r).2.2 = true := by rw [hz]; exact small_neg
    rw [G4_bad (valM_bad _ hb)]
    unfold G4
    rw [if_neg hn, wrM, if_pos (.inr hz)]
  · rw [smallM_num _ h]
    have hw : wrM s p.lo.length (d + 1) r = (wrM s p.lo.length d (valM s (numM s 0 ((p.lo.length : Int) - 1) r).2).2).map fun t => (⟨(numM s 0 ((p.lo.length : Int) - 1) r).1, (valM s (numM s 0 ((p.lo.length : Int) - 1) r).2).1⟩ :: t.1, t.2) := by
      rw [wrM, if_neg (fun hh => by rcases hh with hh | hh; exact hn hh; exact hz hh)]
    by_cases hb : (valM s (numM s 0 ((p.lo.length : Int) - 1) r).2).2.2 = true
    · rw [G4_bad hb]
      unfold G4
      rw [if_neg hn, hw]
      cases e : wrM s p.lo.length d (valM s (numM s 0 ((p.lo.length : Int) - 1) r).2).2 with
      | none => rfl
      | some t => exact bufN_bad (show t.2.2 = true from wrM_bad _ _ _ t hb e)
    · unfold G4
      rw [if_neg hn, if_neg hb, hw]
      cases wrM s p.lo.length d (valM s (numM s 0 ((p.lo.length : Int) - 1) r).2).2 with
      | none => rfl
      | some t => simp
end
end Go.Proofs.Ytemhpbdlonfikaa.P
